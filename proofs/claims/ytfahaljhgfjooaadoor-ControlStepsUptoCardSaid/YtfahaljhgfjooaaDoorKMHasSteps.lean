/- The contracts of the functions that the law reaches, of the given program. -/
import Derived.Test.YtfahaljhgfjooaaDoorP1
import Derived.Test.YtfahaljhgfjooaaDoorP2
import Derived.Test.YtfahaljhgfjooaaDoorKKM1
import Derived.Test.YtfahaljhgfjooaaDoorKKM2
import Derived.Test.YtfahaljhgfjooaaDoorNwHas
import Derived.Test.YtfahaljhgfjooaaDoorProg
set_option linter.all false
namespace Go.Nw.KM
open Go.Proofs Go.Nw.Ctl
set_option maxRecDepth 100000
theorem g1o : d08 (b0n Tryd.prog) := fun r h => by cases h; exact ⟨j93, b0o, b0d _⟩
theorem g56 : Has (b0n Tryd.prog) "newel/newelref04.CopyCond" x_r04_CopyCond := b0x 19 [] [(11, 0)] Tryd.func19 (by kernel_rfl) (by kernel_rfl)
theorem g1w : c6l (b0n Tryd.prog) := c8y g56
theorem g55 : Has (b0n Tryd.prog) "newel/newelref04.Copy" x_r04_Copy := b0x 18 [1, 30, 24, 19, 15, 11, 7] [(16, 5)] Tryd.func18 (by kernel_rfl) (by kernel_rfl)
theorem g1v : c6k (b0n Tryd.prog) := c8x g55 g1w
theorem g6s : Has (b0n Tryd.prog) "newel/situation.within" x_situation_within := b0x 94 [] [] Tryd.func94 (by kernel_rfl) (by kernel_rfl)
theorem c3c : b76 (b0n Tryd.prog) := b27 g6s
theorem d3b : Has (b0n Tryd.prog) "slices.Concat[[]string,string]" x_slices_Concat___string_string_ := b0x 106 [] [] Tryd.func106 (by kernel_rfl) (by kernel_rfl)
theorem d3c : Has (b0n Tryd.prog) "slices.Grow[[]string,string]" x_slices_Grow___string_string_ := b0x 107 [] [] Tryd.func107 (by kernel_rfl) (by kernel_rfl)
theorem g2g : c65 (b0n Tryd.prog) := c9h d3b d3c
theorem g6q : Has (b0n Tryd.prog) "newel/situation.names" x_situation_names := b0x 103 [1, 27, 14, 10, 8] [] Tryd.func103 (by kernel_rfl) (by kernel_rfl)
theorem g2e : c63 (b0n Tryd.prog) := c9f g6q g2g
theorem g2h : c66 (b0n Tryd.prog) := c9i d3b d3c
theorem g6r : Has (b0n Tryd.prog) "newel/situation.names" x_situation_names := b0x 103 [1, 27, 14, 10, 8] [] Tryd.func103 (by kernel_rfl) (by kernel_rfl)
theorem g2f : c64 (b0n Tryd.prog) := c9g g6r g2h
theorem g2d : c62 (b0n Tryd.prog) := c9e g2e g2f
theorem g6m : Has (b0n Tryd.prog) "newel/situation.Plain" x_situation_Plain := b0x 104 [] [] Tryd.func104 (by kernel_rfl) (by kernel_rfl)
theorem g19 : c6y (b0n Tryd.prog) := c9a g6m
theorem g6n : Has (b0n Tryd.prog) "newel/situation.Reserved" x_situation_Reserved := b0x 105 [] [] Tryd.func105 (by kernel_rfl) (by kernel_rfl)
theorem g2a : c6z (b0n Tryd.prog) := c9b g6n
theorem g6p : Has (b0n Tryd.prog) "newel/situation.named" x_situation_named := b0x 101 [1] [] Tryd.func101 (by kernel_rfl) (by kernel_rfl)
theorem g2c : c61 (b0n Tryd.prog) := c9d g6p g2d g19 g2a
theorem g6w : Has (b0n Tryd.prog) "slices.IndexFunc[newel/api.Term,newel/api.Literal]" x_slices_IndexFunc_api_Term_api_Literal_ := b0x 99 [] [] Tryd.func99 (by kernel_rfl) (by kernel_rfl)
theorem g2k : c69 (b0n Tryd.prog) := c9l g6w
theorem g6u : Has (b0n Tryd.prog) "slices.ContainsFunc[newel/api.Term,newel/api.Literal]" x_slices_ContainsFunc_api_Term_api_Literal_ := b0x 89 [] [] Tryd.func89 (by kernel_rfl) (by kernel_rfl)
theorem c7h : b9j (b0n Tryd.prog) := b7o g6u g2k
theorem g6o : Has (b0n Tryd.prog) "newel/situation.asks" x_situation_asks := b0x 97 [3, 66, 58, 52, 44, 35, 31, 23, 17, 9, 5, 2, 60, 46, 33, 25, 11] [] Tryd.func97 (by kernel_rfl) (by kernel_rfl)
theorem g2b : c60 (b0n Tryd.prog) := c9c g6o c3c
theorem g6j : Has (b0n Tryd.prog) "newel/situation.Asked$1" x_situation_AskedD1 := b0x 96 [2] [] Tryd.func96 (by kernel_rfl) (by kernel_rfl)
theorem g16 : c6v (b0n Tryd.prog) := c87 g6j g2b
theorem g6i : Has (b0n Tryd.prog) "newel/situation.Asked" x_situation_Asked := b0x 85 [2] [] Tryd.func85 (by kernel_rfl) (by kernel_rfl)
theorem g15 : c6u (b0n Tryd.prog) := c86 g6i c7h g16
theorem g6l : Has (b0n Tryd.prog) "newel/situation.Check$1" x_situation_CheckD1 := b0x 102 [1, 3] [] Tryd.func102 (by kernel_rfl) (by kernel_rfl)
theorem g18 : c6x (b0n Tryd.prog) := c89 g6l
theorem g6k : Has (b0n Tryd.prog) "newel/situation.Check" x_situation_Check := b0x 93 [1, 138, 94, 85, 76, 68, 59, 47, 37, 30, 24, 18, 13] [] Tryd.func93 (by kernel_rfl) (by kernel_rfl)
theorem g17 : c6w (b0n Tryd.prog) := c88 g6k c3c g2c g15 c7h g18
theorem g5y : Has (b0n Tryd.prog) "newel/control.Check" x_control_Check := b0x 68 [1] [] Tryd.func68 (by kernel_rfl) (by kernel_rfl)
theorem d1p : c2i (b0n Tryd.prog) := c0o g5y g17
theorem g51 : Has (b0n Tryd.prog) "newel/control.of" x_control_of := b0x 51 [1] [] Tryd.func51 (by kernel_rfl) (by kernel_rfl)
theorem d1q : c2j (b0n Tryd.prog) := c0p g51
theorem g5u : Has (b0n Tryd.prog) "(newel/situation.Plant).Place" x__situation_Plant__Place := b0x 69 [3, 32, 8, 2, 35, 34, 21, 20, 16, 15] [] Tryd.func69 (by kernel_rfl) (by kernel_rfl)
theorem g08 : c6e (b0n Tryd.prog) := c8r g5u c3c
theorem g5p : Has (b0n Tryd.prog) "(newel/situation.Plant).All" x__situation_Plant__All := b0x 80 [1, 4, 3] [] Tryd.func80 (by kernel_rfl) (by kernel_rfl)
theorem g04 : c6a (b0n Tryd.prog) := c8o g5p
theorem g5t : Has (b0n Tryd.prog) "(newel/situation.Plant).Input" x__situation_Plant__Input := b0x 70 [2] [] Tryd.func70 (by kernel_rfl) (by kernel_rfl)
theorem d1n : c2g (b0n Tryd.prog) := c0m g5t g04 c3c
theorem g6v : Has (b0n Tryd.prog) "slices.IndexFunc[newel/api.Cond,newel/api.Term]" x_slices_IndexFunc_api_Cond_api_Term_ := b0x 98 [] [] Tryd.func98 (by kernel_rfl) (by kernel_rfl)
theorem g2j : c68 (b0n Tryd.prog) := c9k g6v
theorem g6t : Has (b0n Tryd.prog) "slices.ContainsFunc[newel/api.Cond,newel/api.Term]" x_slices_ContainsFunc_api_Cond_api_Term_ := b0x 87 [] [] Tryd.func87 (by kernel_rfl) (by kernel_rfl)
theorem g2i : c67 (b0n Tryd.prog) := c9j g6t g2j
theorem g5w : Has (b0n Tryd.prog) "(newel/situation.Plant).literal" x__situation_Plant__literal := b0x 91 [6, 42, 32, 25, 24, 5, 53, 47, 34, 27, 22, 15, 10, 4, 40, 39] [] Tryd.func91 (by kernel_rfl) (by kernel_rfl)
theorem g09 : c6f (b0n Tryd.prog) := c8s g5w
theorem g5s : Has (b0n Tryd.prog) "(newel/situation.Plant).Holds$1$1" x__situation_Plant__HoldsD1D1 := b0x 90 [4] [] Tryd.func90 (by kernel_rfl) (by kernel_rfl)
theorem g07 : c6d (b0n Tryd.prog) := c8q g5s g09
theorem g5r : Has (b0n Tryd.prog) "(newel/situation.Plant).Holds$1" x__situation_Plant__HoldsD1 := b0x 88 [] [] Tryd.func88 (by kernel_rfl) (by kernel_rfl)
theorem g06 : c6c (b0n Tryd.prog) := c8p g5r c7h g07
theorem g5q : Has (b0n Tryd.prog) "(newel/situation.Plant).Holds" x__situation_Plant__Holds := b0x 58 [7, 6, 4] [] Tryd.func58 (by kernel_rfl) (by kernel_rfl)
theorem g05 : c6b (b0n Tryd.prog) := c4b g5q g2i g06
theorem g5x : Has (b0n Tryd.prog) "(newel/situation.Plant).set" x__situation_Plant__set := b0x 95 [4, 29, 13, 8, 3, 27, 26] [] Tryd.func95 (by kernel_rfl) (by kernel_rfl)
theorem g1a : c6g (b0n Tryd.prog) := c8t g5x
theorem g5v : Has (b0n Tryd.prog) "(newel/situation.Plant).Step" x__situation_Plant__Step := b0x 71 [3, 12, 11] [] Tryd.func71 (by kernel_rfl) (by kernel_rfl)
theorem d1o : c2h (b0n Tryd.prog) := c0n g5v g05 g1a
theorem g50 : Has (b0n Tryd.prog) "newel/control.Step" x_control_Step := b0x 31 [4, 3] [] Tryd.func31 (by kernel_rfl) (by kernel_rfl)
theorem g1i : c6i (b0n Tryd.prog) := c8v g50 d1p d1q g08 d1n d1o
theorem g6f : Has (b0n Tryd.prog) "newel/newelref04.from" x_r04_from := b0x 73 [] [] Tryd.func73 (by kernel_rfl) (by kernel_rfl)
theorem b9y : b65 (b0n Tryd.prog) := b2t g6f
theorem g6h : Has (b0n Tryd.prog) "newel/newelref04.names" x_r04_names := b0x 74 [1, 37, 30, 21, 14, 10, 7] [] Tryd.func74 (by kernel_rfl) (by kernel_rfl)
theorem g14 : c6t (b0n Tryd.prog) := c85 g6h
theorem g6c : Has (b0n Tryd.prog) "newel/newelref04.Word" x_r04_Word := b0x 75 [] [] Tryd.func75 (by kernel_rfl) (by kernel_rfl)
theorem g11 : c6q (b0n Tryd.prog) := c82 g6c
theorem g6e : Has (b0n Tryd.prog) "newel/newelref04.condition" x_r04_condition := b0x 67 [3, 100, 85, 70, 62, 48] [] Tryd.func67 (by kernel_rfl) (by kernel_rfl)
theorem g12 : c6r (b0n Tryd.prog) := c83 g6e b9y
theorem g54 : Has (b0n Tryd.prog) "newel/newelref04.Check" x_r04_Check := b0x 34 [1, 177, 135, 126, 119, 113, 104, 98, 92, 83, 77, 35, 28, 22, 16, 11] [] Tryd.func34 (by kernel_rfl) (by kernel_rfl)
theorem d1r : c2k (b0n Tryd.prog) := c0q g54 b9y g14 g11 g12
theorem g58 : Has (b0n Tryd.prog) "newel/newelref04.IsPlace" x_r04_IsPlace := b0x 36 [3, 32, 31, 7, 2, 24, 20, 9] [] Tryd.func36 (by kernel_rfl) (by kernel_rfl)
theorem g1y : c6n (b0n Tryd.prog) := c8z g58 b9y
theorem g6d : Has (b0n Tryd.prog) "newel/newelref04.all" x_r04_all := b0x 63 [1, 3] [] Tryd.func63 (by kernel_rfl) (by kernel_rfl)
theorem d1t : c2m (b0n Tryd.prog) := c0s g6d
theorem g6g : Has (b0n Tryd.prog) "newel/newelref04.literal" x_r04_literal := b0x 79 [7, 54, 47, 35, 28, 23, 15, 10, 5, 42, 33, 26, 25, 4, 40] [] Tryd.func79 (by kernel_rfl) (by kernel_rfl)
theorem g13 : c6s (b0n Tryd.prog) := c84 g6g
theorem g57 : Has (b0n Tryd.prog) "newel/newelref04.Holds" x_r04_Holds := b0x 37 [5, 4] [] Tryd.func37 (by kernel_rfl) (by kernel_rfl)
theorem g1x : c6m (b0n Tryd.prog) := c4c g57 g13
theorem g59 : Has (b0n Tryd.prog) "newel/newelref04.Next" x_r04_Next := b0x 65 [4, 30, 3, 76, 19, 13] [] Tryd.func65 (by kernel_rfl) (by kernel_rfl)
theorem d1s : c2l (b0n Tryd.prog) := c0r g59 g1x
theorem g6b : Has (b0n Tryd.prog) "newel/newelref04.Step" x_r04_Step := b0x 38 [4, 3] [] Tryd.func38 (by kernel_rfl) (by kernel_rfl)
theorem g10 : c6p (b0n Tryd.prog) := c81 g6b d1r g1y d1t b9y d1s
theorem g5z : Has (b0n Tryd.prog) "newel/control.Run" x_control_Run := b0x 39 [2] [] Tryd.func39 (by kernel_rfl) (by kernel_rfl)
theorem g1h : c6h (b0n Tryd.prog) := c8u g5z d1p d1q d1n d1o
theorem g6a : Has (b0n Tryd.prog) "newel/newelref04.Run" x_r04_Run := b0x 40 [2] [] Tryd.func40 (by kernel_rfl) (by kernel_rfl)
theorem g1z : c6o (b0n Tryd.prog) := c80 g6a d1r d1t b9y d1s
theorem g53 : Has (b0n Tryd.prog) "newel/newellaw04.samePlaces" x_l04_samePlaces := b0x 21 [] [] Tryd.func21 (by kernel_rfl) (by kernel_rfl)
theorem g1n : c6j (b0n Tryd.prog) := c8w g53
theorem g52 : Has (b0n Tryd.prog) "newel/newellaw04.ControlSteps" x_l04_ControlSteps := b0x 9 [4, 3] [] Tryd.func9 (by kernel_rfl) (by kernel_rfl)
theorem g1m : d07 (b0n Tryd.prog) := j0h g52 g1v g1i g10 g1h g1z g1n g1o
end Go.Nw.KM
