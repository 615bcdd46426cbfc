/- The contracts of the functions that the law reaches, of the given program. -/
import Derived.Test.YtfahaljhgfjooaaDoorP1
import Derived.Test.YtfahaljhgfjooaaDoorP2
import Derived.Test.YtfahaljhgfjooaaDoorKKM1
import Derived.Test.YtfahaljhgfjooaaDoorKKM2
import Derived.Test.YtfahaljhgfjooaaDoorNwHas
import Derived.Test.YtfahaljhgfjooaaDoorProg
set_option linter.all false
namespace Go.Nw.KM
open Go.Proofs Go.Nw.Ctl
set_option maxRecDepth 100000
theorem g3g : d2m (b0n Tryd.prog) := fun r h => by cases h; exact ⟨l2s, b0o, b0d _⟩
theorem g8m : Has (b0n Tryd.prog) "newel/newelref04.from" x_r04_from := b0y 73 [] [] Tryd.func73 (by kernel_rfl) (by kernel_rfl)
theorem d23 : c3c (b0n Tryd.prog) := b37 g8m
theorem g8p : Has (b0n Tryd.prog) "newel/newelref04.names" x_r04_names := b0y 74 [1, 37, 30, 21, 14, 10, 7] [] Tryd.func74 (by kernel_rfl) (by kernel_rfl)
theorem g3y : c7v (b0n Tryd.prog) := d0i g8p
theorem g8i : Has (b0n Tryd.prog) "newel/newelref04.Word" x_r04_Word := b0y 75 [] [] Tryd.func75 (by kernel_rfl) (by kernel_rfl)
theorem g3t : c7q (b0n Tryd.prog) := d0d g8i
theorem g8k : Has (b0n Tryd.prog) "newel/newelref04.condition" x_r04_condition := b0y 67 [3, 100, 85, 70, 62, 48] [] Tryd.func67 (by kernel_rfl) (by kernel_rfl)
theorem d22 : c3b (b0n Tryd.prog) := c1c g8k d23
theorem g8a : Has (b0n Tryd.prog) "newel/newelref04.Check" x_r04_Check := b0y 34 [1, 177, 135, 126, 119, 113, 104, 98, 92, 83, 77, 35, 28, 22, 16, 11] [] Tryd.func34 (by kernel_rfl) (by kernel_rfl)
theorem d2z : c26 (b0n Tryd.prog) := c1a g8a d23 g3y g3t d22
theorem g77 : Has (b0n Tryd.prog) "newel/newellaw04.Wide" x_l04_Wide := b0y 15 [1, 27, 19, 12, 8] [] Tryd.func15 (by kernel_rfl) (by kernel_rfl)
theorem g3e : c7i (b0n Tryd.prog) := c95 g77 d2z
theorem g8d : Has (b0n Tryd.prog) "newel/newelref04.CopyCond" x_r04_CopyCond := b0y 19 [] [(11, 0)] Tryd.func19 (by kernel_rfl) (by kernel_rfl)
theorem d20 : c29 (b0n Tryd.prog) := c1b g8d
theorem g8c : Has (b0n Tryd.prog) "newel/newelref04.Copy" x_r04_Copy := b0y 18 [1, 30, 24, 19, 15, 11, 7] [(16, 5)] Tryd.func18 (by kernel_rfl) (by kernel_rfl)
theorem g3p : c7m (b0n Tryd.prog) := c99 g8c d20
theorem g80 : Has (b0n Tryd.prog) "newel/situation.within" x_situation_within := b0y 94 [] [] Tryd.func94 (by kernel_rfl) (by kernel_rfl)
theorem d25 : c3e (b0n Tryd.prog) := b38 g80
theorem d4q : Has (b0n Tryd.prog) "slices.Concat[[]string,string]" x_slices_Concat___string_string_ := b0y 106 [] [] Tryd.func106 (by kernel_rfl) (by kernel_rfl)
theorem d4r : Has (b0n Tryd.prog) "slices.Grow[[]string,string]" x_slices_Grow___string_string_ := b0y 107 [] [] Tryd.func107 (by kernel_rfl) (by kernel_rfl)
theorem g39 : c77 (b0n Tryd.prog) := d0t d4q d4r
theorem g8y : Has (b0n Tryd.prog) "newel/situation.names" x_situation_names := b0y 103 [1, 27, 14, 10, 8] [] Tryd.func103 (by kernel_rfl) (by kernel_rfl)
theorem g37 : c75 (b0n Tryd.prog) := d0r g8y g39
theorem g4a : c78 (b0n Tryd.prog) := d0u d4q d4r
theorem g8z : Has (b0n Tryd.prog) "newel/situation.names" x_situation_names := b0y 103 [1, 27, 14, 10, 8] [] Tryd.func103 (by kernel_rfl) (by kernel_rfl)
theorem g38 : c76 (b0n Tryd.prog) := d0s g8z g4a
theorem g36 : c74 (b0n Tryd.prog) := d0q g37 g38
theorem g8u : Has (b0n Tryd.prog) "newel/situation.Plain" x_situation_Plain := b0y 104 [] [] Tryd.func104 (by kernel_rfl) (by kernel_rfl)
theorem g32 : c7z (b0n Tryd.prog) := d0m g8u
theorem g8v : Has (b0n Tryd.prog) "newel/situation.Reserved" x_situation_Reserved := b0y 105 [] [] Tryd.func105 (by kernel_rfl) (by kernel_rfl)
theorem g33 : c70 (b0n Tryd.prog) := d0n g8v
theorem g8x : Has (b0n Tryd.prog) "newel/situation.named" x_situation_named := b0y 101 [1] [] Tryd.func101 (by kernel_rfl) (by kernel_rfl)
theorem g35 : c73 (b0n Tryd.prog) := d0p g8x g36 g32 g33
theorem g84 : Has (b0n Tryd.prog) "slices.IndexFunc[newel/api.Term,newel/api.Literal]" x_slices_IndexFunc_api_Term_api_Literal_ := b0y 99 [] [] Tryd.func99 (by kernel_rfl) (by kernel_rfl)
theorem g4d : c8b (b0n Tryd.prog) := d0x g84
theorem g82 : Has (b0n Tryd.prog) "slices.ContainsFunc[newel/api.Term,newel/api.Literal]" x_slices_ContainsFunc_api_Term_api_Literal_ := b0y 89 [] [] Tryd.func89 (by kernel_rfl) (by kernel_rfl)
theorem c8k : b90 (b0n Tryd.prog) := b7t g82 g4d
theorem g8w : Has (b0n Tryd.prog) "newel/situation.asks" x_situation_asks := b0y 97 [3, 66, 58, 52, 44, 35, 31, 23, 17, 9, 5, 2, 60, 46, 33, 25, 11] [] Tryd.func97 (by kernel_rfl) (by kernel_rfl)
theorem g34 : c72 (b0n Tryd.prog) := d0o g8w d25
theorem g8r : Has (b0n Tryd.prog) "newel/situation.Asked$1" x_situation_AskedD1 := b0y 96 [2] [] Tryd.func96 (by kernel_rfl) (by kernel_rfl)
theorem g3z : c7w (b0n Tryd.prog) := d0j g8r g34
theorem g8q : Has (b0n Tryd.prog) "newel/situation.Asked" x_situation_Asked := b0y 85 [2] [] Tryd.func85 (by kernel_rfl) (by kernel_rfl)
theorem d24 : c3d (b0n Tryd.prog) := c1d g8q c8k g3z
theorem g8t : Has (b0n Tryd.prog) "newel/situation.Check$1" x_situation_CheckD1 := b0y 102 [1, 3] [] Tryd.func102 (by kernel_rfl) (by kernel_rfl)
theorem g31 : c7y (b0n Tryd.prog) := d0l g8t
theorem g8s : Has (b0n Tryd.prog) "newel/situation.Check" x_situation_Check := b0y 93 [1, 138, 94, 85, 76, 68, 59, 47, 37, 30, 24, 18, 13] [] Tryd.func93 (by kernel_rfl) (by kernel_rfl)
theorem g30 : c7x (b0n Tryd.prog) := d0k g8s d25 g35 d24 c8k g31
theorem g71 : Has (b0n Tryd.prog) "newel/control.Check" x_control_Check := b0y 68 [1] [] Tryd.func68 (by kernel_rfl) (by kernel_rfl)
theorem g25 : c7d (b0n Tryd.prog) := c90 g71 g30
theorem g73 : Has (b0n Tryd.prog) "newel/control.check" x_control_check := b0y 50 [2] [] Tryd.func50 (by kernel_rfl) (by kernel_rfl)
theorem g27 : c7f (b0n Tryd.prog) := c92 g73 g25 d24
theorem g74 : Has (b0n Tryd.prog) "newel/control.of" x_control_of := b0y 51 [1] [] Tryd.func51 (by kernel_rfl) (by kernel_rfl)
theorem g28 : c7g (b0n Tryd.prog) := c93 g74
theorem g7t : Has (b0n Tryd.prog) "(newel/situation.Plant).All" x__situation_Plant__All := b0y 80 [1, 4, 3] [] Tryd.func80 (by kernel_rfl) (by kernel_rfl)
theorem g2s : c66 (b0n Tryd.prog) := c9t g7t
theorem g83 : Has (b0n Tryd.prog) "slices.IndexFunc[newel/api.Cond,newel/api.Term]" x_slices_IndexFunc_api_Cond_api_Term_ := b0y 98 [] [] Tryd.func98 (by kernel_rfl) (by kernel_rfl)
theorem g4c : c8a (b0n Tryd.prog) := d0w g83
theorem g81 : Has (b0n Tryd.prog) "slices.ContainsFunc[newel/api.Cond,newel/api.Term]" x_slices_ContainsFunc_api_Cond_api_Term_ := b0y 87 [] [] Tryd.func87 (by kernel_rfl) (by kernel_rfl)
theorem g4b : c79 (b0n Tryd.prog) := d0v g81 g4c
theorem g7z : Has (b0n Tryd.prog) "(newel/situation.Plant).literal" x__situation_Plant__literal := b0y 91 [6, 42, 32, 25, 24, 5, 53, 47, 34, 27, 22, 15, 10, 4, 40, 39] [] Tryd.func91 (by kernel_rfl) (by kernel_rfl)
theorem g2x : c7b (b0n Tryd.prog) := c9y g7z
theorem g7x : Has (b0n Tryd.prog) "(newel/situation.Plant).Holds$1$1" x__situation_Plant__HoldsD1D1 := b0y 90 [4] [] Tryd.func90 (by kernel_rfl) (by kernel_rfl)
theorem g2v : c69 (b0n Tryd.prog) := c9w g7x g2x
theorem g7w : Has (b0n Tryd.prog) "(newel/situation.Plant).Holds$1" x__situation_Plant__HoldsD1 := b0y 88 [] [] Tryd.func88 (by kernel_rfl) (by kernel_rfl)
theorem g2u : c68 (b0n Tryd.prog) := c9v g7w c8k g2v
theorem g7v : Has (b0n Tryd.prog) "(newel/situation.Plant).Holds" x__situation_Plant__Holds := b0y 58 [7, 6, 4] [] Tryd.func58 (by kernel_rfl) (by kernel_rfl)
theorem d2y : c25 (b0n Tryd.prog) := b88 g7v g4b g2u
theorem g7u : Has (b0n Tryd.prog) "(newel/situation.Plant).Allowed" x__situation_Plant__Allowed := b0y 81 [6, 4] [] Tryd.func81 (by kernel_rfl) (by kernel_rfl)
theorem g2t : c67 (b0n Tryd.prog) := c9u g7u d2y
theorem g70 : Has (b0n Tryd.prog) "(newel/situation.Plant).set" x__situation_Plant__set := b0y 95 [4, 29, 13, 8, 3, 27, 26] [] Tryd.func95 (by kernel_rfl) (by kernel_rfl)
theorem g2y : c7c (b0n Tryd.prog) := c9z g70
theorem g7y : Has (b0n Tryd.prog) "(newel/situation.Plant).Step" x__situation_Plant__Step := b0y 71 [3, 12, 11] [] Tryd.func71 (by kernel_rfl) (by kernel_rfl)
theorem g2w : c7a (b0n Tryd.prog) := c9x g7y d2y g2y
theorem g7s : Has (b0n Tryd.prog) "(newel/control.plant).explore" x__control_plant__explore := b0y 52 [3, 60, 53, 41] [(42, 11)] Tryd.func52 (by kernel_rfl) (by kernel_rfl)
theorem g2r : c65 (b0n Tryd.prog) := c9s g7s g2s g2t g2w
theorem g75 : Has (b0n Tryd.prog) "newel/control.same" x_control_same := b0y 53 [] [] Tryd.func53 (by kernel_rfl) (by kernel_rfl)
theorem g29 : c7h (b0n Tryd.prog) := c94 g75
theorem g72 : Has (b0n Tryd.prog) "newel/control.Reach" x_control_Reach := b0y 17 [2] [] Tryd.func17 (by kernel_rfl) (by kernel_rfl)
theorem g26 : c7e (b0n Tryd.prog) := c91 g72 g27 g28 g2r g29
theorem g8b : Has (b0n Tryd.prog) "newel/newelref04.CheckConds" x_r04_CheckConds := b0y 29 [2] [] Tryd.func29 (by kernel_rfl) (by kernel_rfl)
theorem g3o : c7l (b0n Tryd.prog) := c98 g8b d2z d22
theorem g8j : Has (b0n Tryd.prog) "newel/newelref04.all" x_r04_all := b0y 63 [1, 3] [] Tryd.func63 (by kernel_rfl) (by kernel_rfl)
theorem g3u : c7r (b0n Tryd.prog) := d0e g8j
theorem g8o : Has (b0n Tryd.prog) "newel/newelref04.literal" x_r04_literal := b0y 79 [7, 54, 47, 35, 28, 23, 15, 10, 5, 42, 33, 26, 25, 4, 40] [] Tryd.func79 (by kernel_rfl) (by kernel_rfl)
theorem g3x : c7u (b0n Tryd.prog) := d0h g8o
theorem g8f : Has (b0n Tryd.prog) "newel/newelref04.Holds" x_r04_Holds := b0y 37 [5, 4] [] Tryd.func37 (by kernel_rfl) (by kernel_rfl)
theorem d21 : c3a (b0n Tryd.prog) := b89 g8f g3x
theorem g79 : Has (b0n Tryd.prog) "newel/newelref04.Allows" x_r04_Allows := b0y 30 [5, 4] [] Tryd.func30 (by kernel_rfl) (by kernel_rfl)
theorem g3n : c7k (b0n Tryd.prog) := c97 g79 d21
theorem g8e : Has (b0n Tryd.prog) "newel/newelref04.Heard" x_r04_Heard := b0y 72 [] [] Tryd.func72 (by kernel_rfl) (by kernel_rfl)
theorem g3q : c7n (b0n Tryd.prog) := d0a g8e
theorem g8g : Has (b0n Tryd.prog) "newel/newelref04.Next" x_r04_Next := b0y 65 [4, 30, 3, 76, 19, 13] [] Tryd.func65 (by kernel_rfl) (by kernel_rfl)
theorem g3r : c7o (b0n Tryd.prog) := d0b g8g d21
theorem g8n : Has (b0n Tryd.prog) "newel/newelref04.index" x_r04_index := b0y 64 [3] [] Tryd.func64 (by kernel_rfl) (by kernel_rfl)
theorem g3w : c7t (b0n Tryd.prog) := d0g g8n
theorem g8l : Has (b0n Tryd.prog) "newel/newelref04.explore" x_r04_explore := b0y 54 [4] [] Tryd.func54 (by kernel_rfl) (by kernel_rfl)
theorem g3v : c7s (b0n Tryd.prog) := d0f g8l g3u g3n g3q g3r g3w
theorem g8h : Has (b0n Tryd.prog) "newel/newelref04.Reach" x_r04_Reach := b0y 20 [2] [] Tryd.func20 (by kernel_rfl) (by kernel_rfl)
theorem g3s : c7p (b0n Tryd.prog) := d0c g8h g3o g3v
theorem g78 : Has (b0n Tryd.prog) "newel/newellaw04.samePlaces" x_l04_samePlaces := b0y 21 [] [] Tryd.func21 (by kernel_rfl) (by kernel_rfl)
theorem g3f : c7j (b0n Tryd.prog) := c96 g78
theorem g76 : Has (b0n Tryd.prog) "newel/newellaw04.ControlReaches" x_l04_ControlReaches := b0y 3 [3, 23, 15, 2] [] Tryd.func3 (by kernel_rfl) (by kernel_rfl)
theorem g3d : d2l (b0n Tryd.prog) := j2q g76 g3e g3g g3p d20 g26 g3s g3f
end Go.Nw.KM
