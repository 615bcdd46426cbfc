/- The contracts of the functions that the law reaches, of the given program. -/
import Derived.Test.YtfahaljhgfjooaaDoorP1
import Derived.Test.YtfahaljhgfjooaaDoorKH1
import Derived.Test.YtfahaljhgfjooaaDoorP2
import Derived.Test.YtfahaljhgfjooaaDoorKKM1
import Derived.Test.YtfahaljhgfjooaaDoorKKM2
import Derived.Test.YtfahaljhgfjooaaDoorNwHas
import Derived.Test.YtfahaljhgfjooaaDoorProg
set_option linter.all false
namespace Go.Nw.KM
open Go.Proofs Go.Nw.Ctl
set_option maxRecDepth 100000
theorem g7x : d5r (b0n Tryd.prog) := fun r h => by cases h; exact ⟨l7k, b0j, b0e _⟩
theorem j27 : Has (b0n Tryd.prog) "newel/newelref04.from" x_r04_from := b00 73 [] [] Tryd.func73 (by kernel_rfl) (by kernel_rfl)
theorem d6i : c5r (b0n Tryd.prog) := b4p j27
theorem j3a : Has (b0n Tryd.prog) "newel/newelref04.names" x_r04_names := b00 74 [1, 37, 30, 21, 14, 10, 7] [] Tryd.func74 (by kernel_rfl) (by kernel_rfl)
theorem g8a : d0i (b0n Tryd.prog) := d3f j3a
theorem j23 : Has (b0n Tryd.prog) "newel/newelref04.Word" x_r04_Word := b00 75 [] [] Tryd.func75 (by kernel_rfl) (by kernel_rfl)
theorem g78 : d0g (b0n Tryd.prog) := d3d j23
theorem j25 : Has (b0n Tryd.prog) "newel/newelref04.condition" x_r04_condition := b00 67 [3, 100, 85, 70, 62, 48] [] Tryd.func67 (by kernel_rfl) (by kernel_rfl)
theorem d6g : c5p (b0n Tryd.prog) := c3m j25 d6i
theorem j2v : Has (b0n Tryd.prog) "newel/newelref04.Check" x_r04_Check := b00 34 [1, 177, 135, 126, 119, 113, 104, 98, 92, 83, 77, 35, 28, 22, 16, 11] [] Tryd.func34 (by kernel_rfl) (by kernel_rfl)
theorem d6b : c5k (b0n Tryd.prog) := c3i j2v d6i g8a g78 d6g
theorem j2r : Has (b0n Tryd.prog) "newel/newellaw04.Wide" x_l04_Wide := b00 15 [1, 27, 19, 12, 8] [] Tryd.func15 (by kernel_rfl) (by kernel_rfl)
theorem g7v : d0a (b0n Tryd.prog) := d28 j2r d6b
theorem j2y : Has (b0n Tryd.prog) "newel/newelref04.CopyCond" x_r04_CopyCond := b00 19 [] [(11, 0)] Tryd.func19 (by kernel_rfl) (by kernel_rfl)
theorem d6d : c5m (b0n Tryd.prog) := c0i j2y
theorem j2x : Has (b0n Tryd.prog) "newel/newelref04.Copy" x_r04_Copy := b00 18 [1, 30, 24, 19, 15, 11, 7] [(16, 5)] Tryd.func18 (by kernel_rfl) (by kernel_rfl)
theorem g75 : d0d (b0n Tryd.prog) := d3a j2x d6d
theorem j3l : Has (b0n Tryd.prog) "newel/situation.within" x_situation_within := b00 94 [] [] Tryd.func94 (by kernel_rfl) (by kernel_rfl)
theorem d6l : c5u (b0n Tryd.prog) := b4q j3l
theorem d8e : Has (b0n Tryd.prog) "slices.Concat[[]string,string]" x_slices_Concat___string_string_ := b00 106 [] [] Tryd.func106 (by kernel_rfl) (by kernel_rfl)
theorem d8f : Has (b0n Tryd.prog) "slices.Grow[[]string,string]" x_slices_Grow___string_string_ := b00 107 [] [] Tryd.func107 (by kernel_rfl) (by kernel_rfl)
theorem g8l : d0t (b0n Tryd.prog) := d3q d8e d8f
theorem j3j : Has (b0n Tryd.prog) "newel/situation.names" x_situation_names := b00 103 [1, 27, 14, 10, 8] [] Tryd.func103 (by kernel_rfl) (by kernel_rfl)
theorem g8j : d0r (b0n Tryd.prog) := d3o j3j g8l
theorem g8m : d0u (b0n Tryd.prog) := d3r d8e d8f
theorem j3k : Has (b0n Tryd.prog) "newel/situation.names" x_situation_names := b00 103 [1, 27, 14, 10, 8] [] Tryd.func103 (by kernel_rfl) (by kernel_rfl)
theorem g8k : d0s (b0n Tryd.prog) := d3p j3k g8m
theorem g8i : d0q (b0n Tryd.prog) := d3n g8j g8k
theorem j3f : Has (b0n Tryd.prog) "newel/situation.Plain" x_situation_Plain := b00 104 [] [] Tryd.func104 (by kernel_rfl) (by kernel_rfl)
theorem g8e : d0m (b0n Tryd.prog) := d3j j3f
theorem j3g : Has (b0n Tryd.prog) "newel/situation.Reserved" x_situation_Reserved := b00 105 [] [] Tryd.func105 (by kernel_rfl) (by kernel_rfl)
theorem g8f : d0n (b0n Tryd.prog) := d3k j3g
theorem j3i : Has (b0n Tryd.prog) "newel/situation.named" x_situation_named := b00 101 [1] [] Tryd.func101 (by kernel_rfl) (by kernel_rfl)
theorem g8h : d0p (b0n Tryd.prog) := d3m j3i g8i g8e g8f
theorem j3r : Has (b0n Tryd.prog) "slices.IndexFunc[newel/api.Term,newel/api.Literal]" x_slices_IndexFunc_api_Term_api_Literal_ := b00 99 [] [] Tryd.func99 (by kernel_rfl) (by kernel_rfl)
theorem g8r : d0z (b0n Tryd.prog) := d3w j3r
theorem j3o : Has (b0n Tryd.prog) "slices.ContainsFunc[newel/api.Term,newel/api.Literal]" x_slices_ContainsFunc_api_Term_api_Literal_ := b00 89 [] [] Tryd.func89 (by kernel_rfl) (by kernel_rfl)
theorem d1a : c1o (b0n Tryd.prog) := b8n j3o g8r
theorem j3h : Has (b0n Tryd.prog) "newel/situation.asks" x_situation_asks := b00 97 [3, 66, 58, 52, 44, 35, 31, 23, 17, 9, 5, 2, 60, 46, 33, 25, 11] [] Tryd.func97 (by kernel_rfl) (by kernel_rfl)
theorem g8g : d0o (b0n Tryd.prog) := d3l j3h d6l
theorem j3c : Has (b0n Tryd.prog) "newel/situation.Asked$1" x_situation_AskedD1 := b00 96 [2] [] Tryd.func96 (by kernel_rfl) (by kernel_rfl)
theorem g8b : d0j (b0n Tryd.prog) := d3g j3c g8g
theorem j3b : Has (b0n Tryd.prog) "newel/situation.Asked" x_situation_Asked := b00 85 [2] [] Tryd.func85 (by kernel_rfl) (by kernel_rfl)
theorem d6k : c5t (b0n Tryd.prog) := c3p j3b d1a g8b
theorem j3e : Has (b0n Tryd.prog) "newel/situation.Check$1" x_situation_CheckD1 := b00 102 [1, 3] [] Tryd.func102 (by kernel_rfl) (by kernel_rfl)
theorem g8d : d0l (b0n Tryd.prog) := d3i j3e
theorem j3d : Has (b0n Tryd.prog) "newel/situation.Check" x_situation_Check := b00 93 [1, 138, 94, 85, 76, 68, 59, 47, 37, 30, 24, 18, 13] [] Tryd.func93 (by kernel_rfl) (by kernel_rfl)
theorem g8c : d0k (b0n Tryd.prog) := d3h j3d d6l g8h d6k d1a g8d
theorem j2j : Has (b0n Tryd.prog) "newel/control.Check" x_control_Check := b00 68 [1] [] Tryd.func68 (by kernel_rfl) (by kernel_rfl)
theorem g7n : c96 (b0n Tryd.prog) := d24 j2j g8c
theorem j2o : Has (b0n Tryd.prog) "newel/control.of" x_control_of := b00 51 [1] [] Tryd.func51 (by kernel_rfl) (by kernel_rfl)
theorem d58 : c5h (b0n Tryd.prog) := c3f j2o
theorem j2a : Has (b0n Tryd.prog) "(newel/situation.Plant).All" x__situation_Plant__All := b00 80 [1, 4, 3] [] Tryd.func80 (by kernel_rfl) (by kernel_rfl)
theorem g69 : c9y (b0n Tryd.prog) := d2w j2a
theorem j3q : Has (b0n Tryd.prog) "slices.IndexFunc[newel/api.Cond,newel/api.Term]" x_slices_IndexFunc_api_Cond_api_Term_ := b00 98 [] [] Tryd.func98 (by kernel_rfl) (by kernel_rfl)
theorem g8q : d0y (b0n Tryd.prog) := d3v j3q
theorem j3n : Has (b0n Tryd.prog) "slices.ContainsFunc[newel/api.Cond,newel/api.Term]" x_slices_ContainsFunc_api_Cond_api_Term_ := b00 87 [] [] Tryd.func87 (by kernel_rfl) (by kernel_rfl)
theorem g8o : d0w (b0n Tryd.prog) := d3t j3n g8q
theorem j2g : Has (b0n Tryd.prog) "(newel/situation.Plant).literal" x__situation_Plant__literal := b00 91 [6, 42, 32, 25, 24, 5, 53, 47, 34, 27, 22, 15, 10, 4, 40, 39] [] Tryd.func91 (by kernel_rfl) (by kernel_rfl)
theorem g7e : c93 (b0n Tryd.prog) := d21 j2g
theorem j2e : Has (b0n Tryd.prog) "(newel/situation.Plant).Holds$1$1" x__situation_Plant__HoldsD1D1 := b00 90 [4] [] Tryd.func90 (by kernel_rfl) (by kernel_rfl)
theorem g7c : c91 (b0n Tryd.prog) := d2z j2e g7e
theorem j2d : Has (b0n Tryd.prog) "(newel/situation.Plant).Holds$1" x__situation_Plant__HoldsD1 := b00 88 [] [] Tryd.func88 (by kernel_rfl) (by kernel_rfl)
theorem g7b : c90 (b0n Tryd.prog) := d2y j2d d1a g7c
theorem j2c : Has (b0n Tryd.prog) "(newel/situation.Plant).Holds" x__situation_Plant__Holds := b00 58 [7, 6, 4] [] Tryd.func58 (by kernel_rfl) (by kernel_rfl)
theorem c6m : b89 (b0n Tryd.prog) := b52 j2c g8o g7b
theorem j2b : Has (b0n Tryd.prog) "(newel/situation.Plant).Allowed" x__situation_Plant__Allowed := b00 81 [6, 4] [] Tryd.func81 (by kernel_rfl) (by kernel_rfl)
theorem g7a : c9z (b0n Tryd.prog) := d2x j2b c6m
theorem j2h : Has (b0n Tryd.prog) "(newel/situation.Plant).set" x__situation_Plant__set := b00 95 [4, 29, 13, 8, 3, 27, 26] [] Tryd.func95 (by kernel_rfl) (by kernel_rfl)
theorem g7f : c94 (b0n Tryd.prog) := d22 j2h
theorem j2f : Has (b0n Tryd.prog) "(newel/situation.Plant).Step" x__situation_Plant__Step := b00 71 [3, 12, 11] [] Tryd.func71 (by kernel_rfl) (by kernel_rfl)
theorem g7d : c92 (b0n Tryd.prog) := d20 j2f c6m g7f
theorem j17 : Has (b0n Tryd.prog) "(newel/control.plant).explore" x__control_plant__explore := b00 52 [3, 60, 53, 41] [(42, 11)] Tryd.func52 (by kernel_rfl) (by kernel_rfl)
theorem d55 : c5e (b0n Tryd.prog) := c3c j17 g69 g7a g7d
theorem j2p : Has (b0n Tryd.prog) "newel/control.same" x_control_same := b00 53 [] [] Tryd.func53 (by kernel_rfl) (by kernel_rfl)
theorem d59 : c5i (b0n Tryd.prog) := c3g j2p
theorem j3p : Has (b0n Tryd.prog) "slices.IndexFunc[[]int,int]" x_slices_IndexFunc___int_int_ := b00 76 [] [] Tryd.func76 (by kernel_rfl) (by kernel_rfl)
theorem g8p : d0x (b0n Tryd.prog) := d3u j3p
theorem s0y : Has (b0n Tryd.prog) "slices.Equal[[]int,int]" x_slices_Equal___int_int_ := b00 78 [] [] Tryd.func78 (by kernel_rfl) (by kernel_rfl)
theorem s0n : r9b (b0n Tryd.prog) := r9i s0y
theorem s0w : Has (b0n Tryd.prog) "newel/control.Classes$1" x_control_ClassesD1 := b00 77 [] [] Tryd.func77 (by kernel_rfl) (by kernel_rfl)
theorem s0l : r9a (b0n Tryd.prog) := r9h s0w s0n
theorem s0v : Has (b0n Tryd.prog) "newel/control.Classes" x_control_Classes := b00 35 [1, 47] [] Tryd.func35 (by kernel_rfl) (by kernel_rfl)
theorem s0k : r89 (b0n Tryd.prog) := r9g s0v g7n d58 d55 d59 g8p s0l
theorem j24 : Has (b0n Tryd.prog) "newel/newelref04.all" x_r04_all := b00 63 [1, 3] [] Tryd.func63 (by kernel_rfl) (by kernel_rfl)
theorem d6f : c5o (b0n Tryd.prog) := c3l j24
theorem j29 : Has (b0n Tryd.prog) "newel/newelref04.literal" x_r04_literal := b00 79 [7, 54, 47, 35, 28, 23, 15, 10, 5, 42, 33, 26, 25, 4, 40] [] Tryd.func79 (by kernel_rfl) (by kernel_rfl)
theorem g79 : d0h (b0n Tryd.prog) := d3e j29
theorem j20 : Has (b0n Tryd.prog) "newel/newelref04.Holds" x_r04_Holds := b00 37 [5, 4] [] Tryd.func37 (by kernel_rfl) (by kernel_rfl)
theorem c6n : b9a (b0n Tryd.prog) := s3y j20 g79
theorem j2t : Has (b0n Tryd.prog) "newel/newelref04.Allows" x_r04_Allows := b00 30 [5, 4] [] Tryd.func30 (by kernel_rfl) (by kernel_rfl)
theorem d6a : c5j (b0n Tryd.prog) := c3h j2t c6n
theorem j2z : Has (b0n Tryd.prog) "newel/newelref04.Heard" x_r04_Heard := b00 72 [] [] Tryd.func72 (by kernel_rfl) (by kernel_rfl)
theorem g76 : d0e (b0n Tryd.prog) := d3b j2z
theorem j21 : Has (b0n Tryd.prog) "newel/newelref04.Next" x_r04_Next := b00 65 [4, 30, 3, 76, 19, 13] [] Tryd.func65 (by kernel_rfl) (by kernel_rfl)
theorem d6e : c5n (b0n Tryd.prog) := c3k j21 c6n
theorem j28 : Has (b0n Tryd.prog) "newel/newelref04.index" x_r04_index := b00 64 [3] [] Tryd.func64 (by kernel_rfl) (by kernel_rfl)
theorem d6j : c5s (b0n Tryd.prog) := c3o j28
theorem j26 : Has (b0n Tryd.prog) "newel/newelref04.explore" x_r04_explore := b00 54 [4] [] Tryd.func54 (by kernel_rfl) (by kernel_rfl)
theorem d6h : c5q (b0n Tryd.prog) := c3n j26 d6f d6a g76 d6e d6j
theorem s5f : Has (b0n Tryd.prog) "newel/newelref04.Classes" x_r04_Classes := b00 43 [1, 34] [] Tryd.func43 (by kernel_rfl) (by kernel_rfl)
theorem s45 : s4f (b0n Tryd.prog) := s4i s5f d6b d6h d6f d6e d6j
theorem j2s : Has (b0n Tryd.prog) "newel/newellaw04.sameInts" x_l04_sameInts := b00 24 [] [] Tryd.func24 (by kernel_rfl) (by kernel_rfl)
theorem g7w : d0b (b0n Tryd.prog) := c7l j2s
theorem r33 : Has (b0n Tryd.prog) "newel/newellaw04.places" x_l04_places := b00 44 [1, 19, 12, 8] [] Tryd.func44 (by kernel_rfl) (by kernel_rfl)
theorem r3n : r10 (b0n Tryd.prog) := r1q r33 d6b
theorem j2n : Has (b0n Tryd.prog) "newel/control.check" x_control_check := b00 50 [2] [] Tryd.func50 (by kernel_rfl) (by kernel_rfl)
theorem d57 : c5g (b0n Tryd.prog) := c3e j2n g7n d6k
theorem r35 : Has (b0n Tryd.prog) "slices.Equal[[]string,string]" x_slices_Equal___string_string_ := b00 82 [] [] Tryd.func82 (by kernel_rfl) (by kernel_rfl)
theorem r3q : r13 (b0n Tryd.prog) := r1r r35
theorem r2w : Has (b0n Tryd.prog) "slices.Clone[[]int,int]" x_slices_Clone___int_int_ := b00 83 [] [] Tryd.func83 (by kernel_rfl) (by kernel_rfl)
theorem r3p : r12 (b0n Tryd.prog) := r2d r2w
theorem r31 : Has (b0n Tryd.prog) "newel/control.Same" x_control_Same := b00 45 [4, 79, 46, 39, 3, 71, 44, 37] [(27, 0), (63, 0)] Tryd.func45 (by kernel_rfl) (by kernel_rfl)
theorem r3l : r1z (b0n Tryd.prog) := r1p r31 r2w g7n d57 r3q d58 g69 g7a g7d r3p
theorem j2w : Has (b0n Tryd.prog) "newel/newelref04.CheckConds" x_r04_CheckConds := b00 29 [2] [] Tryd.func29 (by kernel_rfl) (by kernel_rfl)
theorem d6c : c5l (b0n Tryd.prog) := c3j j2w d6b d6g
theorem s5h : Has (b0n Tryd.prog) "newel/newelref04.sameNames" x_r04_sameNames := b00 84 [] [] Tryd.func84 (by kernel_rfl) (by kernel_rfl)
theorem s5b : s4h (b0n Tryd.prog) := s4c s5h
theorem j19 : Has (b0n Tryd.prog) "(newel/newelref04.graph).run" x__r04_graph__run := b00 66 [2, 8, 13] [] Tryd.func66 (by kernel_rfl) (by kernel_rfl)
theorem d56 : c5f (b0n Tryd.prog) := c3d j19
theorem s5g : Has (b0n Tryd.prog) "newel/newelref04.Same" x_r04_Same := b00 46 [4, 71, 44, 37, 3, 63, 42, 35] [(32, 15)] Tryd.func46 (by kernel_rfl) (by kernel_rfl)
theorem s5a : s4g (b0n Tryd.prog) := s4j s5g d6b d6c s5b d56 d6f d6a d6e
theorem s5e : Has (b0n Tryd.prog) "newel/newellaw04.ControlCompares" x_l04_ControlCompares := b00 11 [5, 64, 54, 4, 3] [] Tryd.func11 (by kernel_rfl) (by kernel_rfl)
theorem s44 : s4l (b0n Tryd.prog) := s5j s5e g7v g7x g75 s0k s45 g7w r3n d6d r3l s5a
end Go.Nw.KM
