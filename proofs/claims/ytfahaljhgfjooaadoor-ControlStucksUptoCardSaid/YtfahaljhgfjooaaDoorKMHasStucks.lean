/- The contracts of the functions that the law reaches, of the given program. -/
import Derived.Test.YtfahaljhgfjooaaDoorP1
import Derived.Test.YtfahaljhgfjooaaDoorP2
import Derived.Test.YtfahaljhgfjooaaDoorKKM1
import Derived.Test.YtfahaljhgfjooaaDoorKKM2
import Derived.Test.YtfahaljhgfjooaaDoorNwHas
import Derived.Test.YtfahaljhgfjooaaDoorProg
set_option linter.all false
namespace Go.Nw.KM
open Go.Proofs Go.Nw.Ctl
set_option maxRecDepth 100000
theorem g5p : d4b (b0o Tryd.prog) := fun r h => by cases h; exact ⟨l5q, b0l, b0e _⟩
theorem j04 : Has (b0o Tryd.prog) "newel/newelref04.from" x_r04_from := b0z 73 [] [] Tryd.func73 (by kernel_rfl) (by kernel_rfl)
theorem d4p : c35 (b0o Tryd.prog) := b4f j04
theorem j07 : Has (b0o Tryd.prog) "newel/newelref04.names" x_r04_names := b0z 74 [1, 37, 30, 21, 14, 10, 7] [] Tryd.func74 (by kernel_rfl) (by kernel_rfl)
theorem g57 : c84 (b0o Tryd.prog) := d14 j07
theorem j00 : Has (b0o Tryd.prog) "newel/newelref04.Word" x_r04_Word := b0z 75 [] [] Tryd.func75 (by kernel_rfl) (by kernel_rfl)
theorem g52 : c8z (b0o Tryd.prog) := d1z j00
theorem j02 : Has (b0o Tryd.prog) "newel/newelref04.condition" x_r04_condition := b0z 67 [3, 100, 85, 70, 62, 48] [] Tryd.func67 (by kernel_rfl) (by kernel_rfl)
theorem d4o : c34 (b0o Tryd.prog) := c2c j02 d4p
theorem j0s : Has (b0o Tryd.prog) "newel/newelref04.Check" x_r04_Check := b0z 34 [1, 177, 135, 126, 119, 113, 104, 98, 92, 83, 77, 35, 28, 22, 16, 11] [] Tryd.func34 (by kernel_rfl) (by kernel_rfl)
theorem d4m : c32 (b0o Tryd.prog) := c2b j0s d4p g57 g52 d4o
theorem j0p : Has (b0o Tryd.prog) "newel/newellaw04.Wide" x_l04_Wide := b0z 15 [1, 27, 19, 12, 8] [] Tryd.func15 (by kernel_rfl) (by kernel_rfl)
theorem g5n : c8r (b0o Tryd.prog) := d1r j0p d4m
theorem j0v : Has (b0o Tryd.prog) "newel/newelref04.CopyCond" x_r04_CopyCond := b0z 19 [] [(11, 0)] Tryd.func19 (by kernel_rfl) (by kernel_rfl)
theorem d4n : c33 (b0o Tryd.prog) := b92 j0v
theorem j0u : Has (b0o Tryd.prog) "newel/newelref04.Copy" x_r04_Copy := b0z 18 [1, 30, 24, 19, 15, 11, 7] [(16, 5)] Tryd.func18 (by kernel_rfl) (by kernel_rfl)
theorem g5y : c8v (b0o Tryd.prog) := d1v j0u d4n
theorem j1i : Has (b0o Tryd.prog) "newel/situation.within" x_situation_within := b0z 94 [] [] Tryd.func94 (by kernel_rfl) (by kernel_rfl)
theorem d4r : c37 (b0o Tryd.prog) := b4g j1i
theorem d6d : Has (b0o Tryd.prog) "slices.Concat[[]string,string]" x_slices_Concat___string_string_ := b0z 106 [] [] Tryd.func106 (by kernel_rfl) (by kernel_rfl)
theorem d6e : Has (b0o Tryd.prog) "slices.Grow[[]string,string]" x_slices_Grow___string_string_ := b0z 107 [] [] Tryd.func107 (by kernel_rfl) (by kernel_rfl)
theorem g6i : c9f (b0o Tryd.prog) := d2f d6d d6e
theorem j1g : Has (b0o Tryd.prog) "newel/situation.names" x_situation_names := b0z 103 [1, 27, 14, 10, 8] [] Tryd.func103 (by kernel_rfl) (by kernel_rfl)
theorem g6g : c9d (b0o Tryd.prog) := d2d j1g g6i
theorem g6j : c9g (b0o Tryd.prog) := d2g d6d d6e
theorem j1h : Has (b0o Tryd.prog) "newel/situation.names" x_situation_names := b0z 103 [1, 27, 14, 10, 8] [] Tryd.func103 (by kernel_rfl) (by kernel_rfl)
theorem g6h : c9e (b0o Tryd.prog) := d2e j1h g6j
theorem g6f : c9c (b0o Tryd.prog) := d2c g6g g6h
theorem j1c : Has (b0o Tryd.prog) "newel/situation.Plain" x_situation_Plain := b0z 104 [] [] Tryd.func104 (by kernel_rfl) (by kernel_rfl)
theorem g6b : c88 (b0o Tryd.prog) := d18 j1c
theorem j1d : Has (b0o Tryd.prog) "newel/situation.Reserved" x_situation_Reserved := b0z 105 [] [] Tryd.func105 (by kernel_rfl) (by kernel_rfl)
theorem g6c : c89 (b0o Tryd.prog) := d19 j1d
theorem j1f : Has (b0o Tryd.prog) "newel/situation.named" x_situation_named := b0z 101 [1] [] Tryd.func101 (by kernel_rfl) (by kernel_rfl)
theorem g6e : c9b (b0o Tryd.prog) := d2b j1f g6f g6b g6c
theorem j1m : Has (b0o Tryd.prog) "slices.IndexFunc[newel/api.Term,newel/api.Literal]" x_slices_IndexFunc_api_Term_api_Literal_ := b0z 99 [] [] Tryd.func99 (by kernel_rfl) (by kernel_rfl)
theorem g6m : c9j (b0o Tryd.prog) := d2j j1m
theorem j1k : Has (b0o Tryd.prog) "slices.ContainsFunc[newel/api.Term,newel/api.Literal]" x_slices_ContainsFunc_api_Term_api_Literal_ := b0z 89 [] [] Tryd.func89 (by kernel_rfl) (by kernel_rfl)
theorem c9y : c0z (b0o Tryd.prog) := b8i j1k g6m
theorem j1e : Has (b0o Tryd.prog) "newel/situation.asks" x_situation_asks := b0z 97 [3, 66, 58, 52, 44, 35, 31, 23, 17, 9, 5, 2, 60, 46, 33, 25, 11] [] Tryd.func97 (by kernel_rfl) (by kernel_rfl)
theorem g6d : c9a (b0o Tryd.prog) := d2a j1e d4r
theorem j09 : Has (b0o Tryd.prog) "newel/situation.Asked$1" x_situation_AskedD1 := b0z 96 [2] [] Tryd.func96 (by kernel_rfl) (by kernel_rfl)
theorem g58 : c85 (b0o Tryd.prog) := d15 j09 g6d
theorem j08 : Has (b0o Tryd.prog) "newel/situation.Asked" x_situation_Asked := b0z 85 [2] [] Tryd.func85 (by kernel_rfl) (by kernel_rfl)
theorem d4q : c36 (b0o Tryd.prog) := c2d j08 c9y g58
theorem j1b : Has (b0o Tryd.prog) "newel/situation.Check$1" x_situation_CheckD1 := b0z 102 [1, 3] [] Tryd.func102 (by kernel_rfl) (by kernel_rfl)
theorem g6a : c87 (b0o Tryd.prog) := d17 j1b
theorem j1a : Has (b0o Tryd.prog) "newel/situation.Check" x_situation_Check := b0z 93 [1, 138, 94, 85, 76, 68, 59, 47, 37, 30, 24, 18, 13] [] Tryd.func93 (by kernel_rfl) (by kernel_rfl)
theorem g59 : c86 (b0o Tryd.prog) := d16 j1a d4r g6e d4q c9y g6a
theorem j0j : Has (b0o Tryd.prog) "newel/control.Check" x_control_Check := b0z 68 [1] [] Tryd.func68 (by kernel_rfl) (by kernel_rfl)
theorem g5e : c8m (b0o Tryd.prog) := d1m j0j g59
theorem j0m : Has (b0o Tryd.prog) "newel/control.check" x_control_check := b0z 50 [2] [] Tryd.func50 (by kernel_rfl) (by kernel_rfl)
theorem g5h : c8p (b0o Tryd.prog) := d1p j0m g5e d4q
theorem j0n : Has (b0o Tryd.prog) "newel/control.of" x_control_of := b0z 51 [1] [] Tryd.func51 (by kernel_rfl) (by kernel_rfl)
theorem g5i : c8q (b0o Tryd.prog) := d1q j0n
theorem j0b : Has (b0o Tryd.prog) "(newel/situation.Plant).All" x__situation_Plant__All := b0z 80 [1, 4, 3] [] Tryd.func80 (by kernel_rfl) (by kernel_rfl)
theorem g41 : c8f (b0o Tryd.prog) := d1f j0b
theorem j1l : Has (b0o Tryd.prog) "slices.IndexFunc[newel/api.Cond,newel/api.Term]" x_slices_IndexFunc_api_Cond_api_Term_ := b0z 98 [] [] Tryd.func98 (by kernel_rfl) (by kernel_rfl)
theorem g6l : c9i (b0o Tryd.prog) := d2i j1l
theorem j1j : Has (b0o Tryd.prog) "slices.ContainsFunc[newel/api.Cond,newel/api.Term]" x_slices_ContainsFunc_api_Cond_api_Term_ := b0z 87 [] [] Tryd.func87 (by kernel_rfl) (by kernel_rfl)
theorem g6k : c9h (b0o Tryd.prog) := d2h j1j g6l
theorem j0h : Has (b0o Tryd.prog) "(newel/situation.Plant).literal" x__situation_Plant__literal := b0z 91 [6, 42, 32, 25, 24, 5, 53, 47, 34, 27, 22, 15, 10, 4, 40, 39] [] Tryd.func91 (by kernel_rfl) (by kernel_rfl)
theorem g46 : c8k (b0o Tryd.prog) := d1k j0h
theorem j0f : Has (b0o Tryd.prog) "(newel/situation.Plant).Holds$1$1" x__situation_Plant__HoldsD1D1 := b0z 90 [4] [] Tryd.func90 (by kernel_rfl) (by kernel_rfl)
theorem g44 : c8i (b0o Tryd.prog) := d1i j0f g46
theorem j0e : Has (b0o Tryd.prog) "(newel/situation.Plant).Holds$1" x__situation_Plant__HoldsD1 := b0z 88 [] [] Tryd.func88 (by kernel_rfl) (by kernel_rfl)
theorem g43 : c8h (b0o Tryd.prog) := d1h j0e c9y g44
theorem j0d : Has (b0o Tryd.prog) "(newel/situation.Plant).Holds" x__situation_Plant__Holds := b0z 58 [7, 6, 4] [] Tryd.func58 (by kernel_rfl) (by kernel_rfl)
theorem c9w : c0x (b0o Tryd.prog) := b6z j0d g6k g43
theorem j0c : Has (b0o Tryd.prog) "(newel/situation.Plant).Allowed" x__situation_Plant__Allowed := b0z 81 [6, 4] [] Tryd.func81 (by kernel_rfl) (by kernel_rfl)
theorem g42 : c8g (b0o Tryd.prog) := d1g j0c c9w
theorem j0i : Has (b0o Tryd.prog) "(newel/situation.Plant).set" x__situation_Plant__set := b0z 95 [4, 29, 13, 8, 3, 27, 26] [] Tryd.func95 (by kernel_rfl) (by kernel_rfl)
theorem g47 : c8l (b0o Tryd.prog) := d1l j0i
theorem j0g : Has (b0o Tryd.prog) "(newel/situation.Plant).Step" x__situation_Plant__Step := b0z 71 [3, 12, 11] [] Tryd.func71 (by kernel_rfl) (by kernel_rfl)
theorem g45 : c8j (b0o Tryd.prog) := d1j j0g c9w g47
theorem g98 : Has (b0o Tryd.prog) "(newel/control.plant).explore" x__control_plant__explore := b0z 52 [3, 60, 53, 41] [(42, 11)] Tryd.func52 (by kernel_rfl) (by kernel_rfl)
theorem g4y : c8c (b0o Tryd.prog) := d1c g98 g41 g42 g45
theorem j1n : Has (b0o Tryd.prog) "slices.Reverse[[]int,int]" x_slices_Reverse___int_int_ := b0z 100 [] [] Tryd.func100 (by kernel_rfl) (by kernel_rfl)
theorem g6n : c9k (b0o Tryd.prog) := d2k j1n
theorem g95 : Has (b0o Tryd.prog) "(*newel/control.walk).run" x___control_walk__run := b0z 92 [] [] Tryd.func92 (by kernel_rfl) (by kernel_rfl)
theorem g4v : c79 (b0o Tryd.prog) := d09 g95 g6n
theorem g94 : Has (b0o Tryd.prog) "(*newel/control.walk).first" x___control_walk__first := b0z 61 [] [] Tryd.func61 (by kernel_rfl) (by kernel_rfl)
theorem g4u : c78 (b0o Tryd.prog) := d08 g94 g4v
theorem g97 : Has (b0o Tryd.prog) "(newel/control.plant).breach$1" x__control_plant__breachD1 := b0z 86 [] [] Tryd.func86 (by kernel_rfl) (by kernel_rfl)
theorem g4x : c8b (b0o Tryd.prog) := d1b g97 c9w
theorem g96 : Has (b0o Tryd.prog) "(newel/control.plant).breach" x__control_plant__breach := b0z 55 [6, 4] [(4, 10)] Tryd.func55 (by kernel_rfl) (by kernel_rfl)
theorem g4w : c8a (b0o Tryd.prog) := d1a g96 g4y g4u g4x
theorem j0l : Has (b0o Tryd.prog) "newel/control.Stuck$1" x_control_StuckD1 := b0z 56 [] [] Tryd.func56 (by kernel_rfl) (by kernel_rfl)
theorem g5g : c8o (b0o Tryd.prog) := d1o j0l
theorem j0k : Has (b0o Tryd.prog) "newel/control.Stuck" x_control_Stuck := b0z 22 [3, 21] [(13, 11), (19, 12)] Tryd.func22 (by kernel_rfl) (by kernel_rfl)
theorem g5f : c8n (b0o Tryd.prog) := d1n j0k g5h g5i g4w g5g
theorem j0t : Has (b0o Tryd.prog) "newel/newelref04.CheckConds" x_r04_CheckConds := b0z 29 [2] [] Tryd.func29 (by kernel_rfl) (by kernel_rfl)
theorem g5x : c8u (b0o Tryd.prog) := d1u j0t d4m d4o
theorem j01 : Has (b0o Tryd.prog) "newel/newelref04.all" x_r04_all := b0z 63 [1, 3] [] Tryd.func63 (by kernel_rfl) (by kernel_rfl)
theorem g53 : c80 (b0o Tryd.prog) := d10 j01
theorem j06 : Has (b0o Tryd.prog) "newel/newelref04.literal" x_r04_literal := b0z 79 [7, 54, 47, 35, 28, 23, 15, 10, 5, 42, 33, 26, 25, 4, 40] [] Tryd.func79 (by kernel_rfl) (by kernel_rfl)
theorem g56 : c83 (b0o Tryd.prog) := d13 j06
theorem j0x : Has (b0o Tryd.prog) "newel/newelref04.Holds" x_r04_Holds := b0z 37 [5, 4] [] Tryd.func37 (by kernel_rfl) (by kernel_rfl)
theorem c9x : c0y (b0o Tryd.prog) := b60 j0x g56
theorem j0r : Has (b0o Tryd.prog) "newel/newelref04.Allows" x_r04_Allows := b0z 30 [5, 4] [] Tryd.func30 (by kernel_rfl) (by kernel_rfl)
theorem g5w : c8t (b0o Tryd.prog) := d1t j0r c9x
theorem j0w : Has (b0o Tryd.prog) "newel/newelref04.Heard" x_r04_Heard := b0z 72 [] [] Tryd.func72 (by kernel_rfl) (by kernel_rfl)
theorem g5z : c8w (b0o Tryd.prog) := d1w j0w
theorem j0y : Has (b0o Tryd.prog) "newel/newelref04.Next" x_r04_Next := b0z 65 [4, 30, 3, 76, 19, 13] [] Tryd.func65 (by kernel_rfl) (by kernel_rfl)
theorem g50 : c8x (b0o Tryd.prog) := d1x j0y c9x
theorem j05 : Has (b0o Tryd.prog) "newel/newelref04.index" x_r04_index := b0z 64 [3] [] Tryd.func64 (by kernel_rfl) (by kernel_rfl)
theorem g55 : c82 (b0o Tryd.prog) := d12 j05
theorem j03 : Has (b0o Tryd.prog) "newel/newelref04.explore" x_r04_explore := b0z 54 [4] [] Tryd.func54 (by kernel_rfl) (by kernel_rfl)
theorem g54 : c81 (b0o Tryd.prog) := d11 j03 g53 g5w g5z g50 g55
theorem j0a : Has (b0o Tryd.prog) "(newel/newelref04.graph).run" x__r04_graph__run := b0z 66 [2, 8, 13] [] Tryd.func66 (by kernel_rfl) (by kernel_rfl)
theorem g40 : c8e (b0o Tryd.prog) := d1e j0a
theorem g99 : Has (b0o Tryd.prog) "(newel/newelref04.graph).breach" x__r04_graph__breach := b0z 57 [4, 3, 17, 10] [] Tryd.func57 (by kernel_rfl) (by kernel_rfl)
theorem g4z : c8d (b0o Tryd.prog) := d1d g99 c9x g40
theorem j0z : Has (b0o Tryd.prog) "newel/newelref04.Stuck" x_r04_Stuck := b0z 23 [3, 26] [] Tryd.func23 (by kernel_rfl) (by kernel_rfl)
theorem g51 : c8y (b0o Tryd.prog) := d1y j0z g5x g54 g4z
theorem j0q : Has (b0o Tryd.prog) "newel/newellaw04.sameInts" x_l04_sameInts := b0z 24 [] [] Tryd.func24 (by kernel_rfl) (by kernel_rfl)
theorem g5o : c8s (b0o Tryd.prog) := d1s j0q
theorem j0o : Has (b0o Tryd.prog) "newel/newellaw04.ControlStucks" x_l04_ControlStucks := b0z 4 [3, 37, 35, 24, 21, 2] [] Tryd.func4 (by kernel_rfl) (by kernel_rfl)
theorem g5m : d4a (b0o Tryd.prog) := j48 j0o g5n g5p g5y d4n g5f g51 g5o
end Go.Nw.KM
