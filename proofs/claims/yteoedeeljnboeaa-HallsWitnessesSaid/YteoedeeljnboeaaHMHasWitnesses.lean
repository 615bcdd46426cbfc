/- The contracts of the functions that the law reaches, of the given program. -/
import Derived.Test.YteoedeeljnboeaaKHM1
import Derived.Test.YteoedeeljnboeaaKHM2
import Derived.Test.YteoedeeljnboeaaKHM3
import Derived.Test.YteoedeeljnboeaaNwHas
import Derived.Test.YteoedeeljnboeaaProg
set_option linter.all false
set_option linter.unusedVariables false
set_option linter.unusedSimpArgs false
set_option linter.unusedSectionVars false
namespace Go.Nw.HM
open Go.Proofs Go.Nw.Halls
set_option maxRecDepth 100000
instance cfg : Cfg := ⟨fun _ => none, fun _ => false⟩
theorem g7s : Has (b1h Try.prog) "newel/newellaw06.Far" x_l06_Far := b2l 13 [1, 37, 31, 25, 21, 15, 9, 4] [] Try.func13 (by kernel_rfl) (by kernel_rfl)
theorem g3y : c74 (b1h Try.prog) := d05 g7s
theorem g7r : Has (b1h Try.prog) "newel/newellaw06.Example" x_l06_Example := b2l 47 [] [] Try.func47 (by kernel_rfl) (by kernel_rfl)
theorem g3x : c73 (b1h Try.prog) := c6a g7r
theorem g7j : Has (b1h Try.prog) "newel/halls.in" x_halls_in := b2l 66 [3, 11, 5] [] Try.func66 (by kernel_rfl) (by kernel_rfl)
theorem d3j : c4p (b1h Try.prog) := b84 g7j
theorem g7q : Has (b1h Try.prog) "newel/halls.span" x_halls_span := b2l 76 [3, 19, 14, 12, 8] [] Try.func76 (by kernel_rfl) (by kernel_rfl)
theorem d3l : c4r (b1h Try.prog) := b86 g7q
theorem g7k : Has (b1h Try.prog) "newel/halls.isComb" x_halls_isComb := b2l 62 [2, 33, 6] [] Try.func62 (by kernel_rfl) (by kernel_rfl)
theorem g3s : c7z (b1h Try.prog) := d01 g7k d3j d3l
theorem g8a : Has (b1h Try.prog) "slices.IndexFunc[[]newel/api.Train,newel/api.Train]" x_slices_IndexFunc___api_Train_api_Train_ := b2l 77 [] [] Try.func77 (by kernel_rfl) (by kernel_rfl)
theorem g4j : c8i (b1h Try.prog) := d1g g8a
theorem g77 : Has (b1h Try.prog) "slices.ContainsFunc[[]newel/api.Train,newel/api.Train]" x_slices_ContainsFunc___api_Train_api_Train_ := b2l 63 [] [] Try.func63 (by kernel_rfl) (by kernel_rfl)
theorem g4g : c8f (b1h Try.prog) := d1d g77 g4j
theorem g7l : Has (b1h Try.prog) "newel/halls.isTrain" x_halls_isTrain := b2l 65 [3, 43, 36, 8, 2, 38, 22] [] Try.func65 (by kernel_rfl) (by kernel_rfl)
theorem g3t : c70 (b1h Try.prog) := d02 g7l d3l
theorem g7a : Has (b1h Try.prog) "newel/halls.Check$1" x_halls_CheckD1 := b2l 64 [2] [] Try.func64 (by kernel_rfl) (by kernel_rfl)
theorem g3l : c7s (b1h Try.prog) := d0u g7a g3t
theorem g69 : Has (b1h Try.prog) "newel/halls.Check" x_halls_Check := b2l 41 [1, 95, 77, 67, 53, 49, 38, 33, 27, 21, 15, 10, 6] [] Try.func41 (by kernel_rfl) (by kernel_rfl)
theorem d3h : c4n (b1h Try.prog) := c3h g69 g3s g4g g3l d3j
theorem g8b : Has (b1h Try.prog) "slices.IndexFunc[[]int,int]" x_slices_IndexFunc___int_int_ := b2l 69 [] [] Try.func69 (by kernel_rfl) (by kernel_rfl)
theorem d3o : c4u (b1h Try.prog) := c3m g8b
theorem g78 : Has (b1h Try.prog) "slices.ContainsFunc[[]int,int]" x_slices_ContainsFunc___int_int_ := b2l 67 [] [] Try.func67 (by kernel_rfl) (by kernel_rfl)
theorem g4h : c8g (b1h Try.prog) := d1e g78 d3o
theorem g7i : Has (b1h Try.prog) "newel/halls.check$1" x_halls_checkD1 := b2l 68 [] [] Try.func68 (by kernel_rfl) (by kernel_rfl)
theorem g3r : c7y (b1h Try.prog) := d00 g7i
theorem g7h : Has (b1h Try.prog) "newel/halls.check" x_halls_check := b2l 48 [3, 17] [] Try.func48 (by kernel_rfl) (by kernel_rfl)
theorem d3i : c4o (b1h Try.prog) := c3i g7h d3h g4h g3r
theorem g7p : Has (b1h Try.prog) "newel/halls.rates" x_halls_rates := b2l 59 [2, 48, 40, 29, 24, 12, 9] [] Try.func59 (by kernel_rfl) (by kernel_rfl)
theorem g3v : c72 (b1h Try.prog) := d04 g7p
theorem g7m : Has (b1h Try.prog) "newel/halls.open" x_halls_open := b2l 49 [1, 4] [(9, 0)] Try.func49 (by kernel_rfl) (by kernel_rfl)
theorem c8q : c13 (b1h Try.prog) := b85 g7m g3v
theorem g7g : Has (b1h Try.prog) "newel/halls.brought" x_halls_brought := b2l 71 [4, 13] [] Try.func71 (by kernel_rfl) (by kernel_rfl)
theorem g3q : c7x (b1h Try.prog) := d0z g7g
theorem g67 : Has (b1h Try.prog) "(*newel/halls.bound).passes" x___halls_bound__passes := b2l 72 [] [] Try.func72 (by kernel_rfl) (by kernel_rfl)
theorem g3b : c7q (b1h Try.prog) := d0s g67
theorem g7f : Has (b1h Try.prog) "newel/halls.bounds" x_halls_bounds := b2l 51 [2, 120, 49, 36, 31, 26, 16] [(74, 5), (40, 9), (70, 7)] Try.func51 (by kernel_rfl) (by kernel_rfl)
theorem c8p : c12 (b1h Try.prog) := b83 g7f g3q g3b
theorem g7o : Has (b1h Try.prog) "newel/halls.over$1" x_halls_overD1 := b2l 70 [] [] Try.func70 (by kernel_rfl) (by kernel_rfl)
theorem g3u : c71 (b1h Try.prog) := d03 g7o
theorem g7n : Has (b1h Try.prog) "newel/halls.over" x_halls_over := b2l 50 [2] [] Try.func50 (by kernel_rfl) (by kernel_rfl)
theorem d3k : c4q (b1h Try.prog) := c3j g7n d3o g3u
theorem g7b : Has (b1h Try.prog) "newel/halls.Guard" x_halls_Guard := b2l 16 [3, 34] [(1000004, 2000049), (1000007, 2000051)] Try.func16 (by kernel_rfl) (by kernel_rfl)
theorem g3m : c7t (b1h Try.prog) := d0v g7b d3i c8q c8p d3k
theorem g7c : Has (b1h Try.prog) "newel/halls.Over" x_halls_Over := b2l 18 [1] [(1000004, 2000049), (1000004, 2000051)] Try.func18 (by kernel_rfl) (by kernel_rfl)
theorem g3n : c7u (b1h Try.prog) := d0w g7c d3h c8q c8p d3k
theorem g7w : Has (b1h Try.prog) "newel/newellaw06.works" x_l06_works := b2l 15 [] [] Try.func15 (by kernel_rfl) (by kernel_rfl)
theorem g32 : c77 (b1h Try.prog) := c6c g7w g3x g3m g3n
theorem g79 : Has (b1h Try.prog) "slices.IndexFunc[[]newel/api.Comb,newel/api.Comb]" x_slices_IndexFunc___api_Comb_api_Comb_ := b2l 74 [] [] Try.func74 (by kernel_rfl) (by kernel_rfl)
theorem g4i : c8h (b1h Try.prog) := d1f g79
theorem g76 : Has (b1h Try.prog) "slices.ContainsFunc[[]newel/api.Comb,newel/api.Comb]" x_slices_ContainsFunc___api_Comb_api_Comb_ := b2l 57 [] [] Try.func57 (by kernel_rfl) (by kernel_rfl)
theorem g4f : c8e (b1h Try.prog) := d1c g76 g4i
theorem g7e : Has (b1h Try.prog) "newel/halls.Witness$1" x_halls_WitnessD1 := b2l 58 [2, 4] [] Try.func58 (by kernel_rfl) (by kernel_rfl)
theorem g3p : c7w (b1h Try.prog) := d0y g7e
theorem g7d : Has (b1h Try.prog) "newel/halls.Witness" x_halls_Witness := b2l 33 [4, 3, 149, 84, 31] [(1000006, 2000049), (1000006, 2000051), (62, 17), (73, 0)] Try.func33 (by kernel_rfl) (by kernel_rfl)
theorem g3o : c7v (b1h Try.prog) := d0x g7d d3i g4f g3p c8q c8p
theorem g75 : Has (b1h Try.prog) "newel/newelref06.within" x_r06_within := b2l 45 [] [] Try.func45 (by kernel_rfl) (by kernel_rfl)
theorem c8r : c14 (b1h Try.prog) := b4w g75
theorem g74 : Has (b1h Try.prog) "newel/newelref06.spanned" x_r06_spanned := b2l 46 [3, 19, 14, 12, 7] [] Try.func46 (by kernel_rfl) (by kernel_rfl)
theorem g4e : c8d (b1h Try.prog) := c0w g74
theorem g7y : Has (b1h Try.prog) "newel/newelref06.Check" x_r06_Check := b2l 14 [1, 178, 153, 146, 140, 93, 86, 80, 43, 35, 30, 24, 17, 12] [] Try.func14 (by kernel_rfl) (by kernel_rfl)
theorem g4a : c79 (b1h Try.prog) := d08 g7y c8r g4e
theorem g72 : Has (b1h Try.prog) "newel/newelref06.comb" x_r06_comb := b2l 53 [2, 6] [] Try.func53 (by kernel_rfl) (by kernel_rfl)
theorem g4d : c8c (b1h Try.prog) := d1b g72 c8r
theorem g7z : Has (b1h Try.prog) "newel/newelref06.First" x_r06_First := b2l 44 [2, 13, 7] [] Try.func44 (by kernel_rfl) (by kernel_rfl)
theorem g4b : c8a (b1h Try.prog) := d09 g7z
theorem g68 : Has (b1h Try.prog) "(newel/newelref06.Bounds).pass" x__r06_Bounds__pass := b2l 73 [4, 14] [] Try.func73 (by kernel_rfl) (by kernel_rfl)
theorem g3c : c7r (b1h Try.prog) := d0t g68
theorem g73 : Has (b1h Try.prog) "newel/newelref06.rates" x_r06_rates := b2l 52 [2, 53, 42, 33, 27, 19, 12, 8] [] Try.func52 (by kernel_rfl) (by kernel_rfl)
theorem d3n : c4t (b1h Try.prog) := c3l g73
theorem g7x : Has (b1h Try.prog) "newel/newelref06.All" x_r06_All := b2l 56 [1, 229, 223, 216, 212, 164, 160, 157, 143, 134, 116, 61, 55, 49, 43, 36, 32, 26] [(116, 13), (116, 14), (118, 5), (118, 18)] Try.func56 (by kernel_rfl) (by kernel_rfl)
theorem g39 : c78 (b1h Try.prog) := d07 g7x g3c d3n
theorem g71 : Has (b1h Try.prog) "newel/newelref06.Witness" x_r06_Witness := b2l 34 [3, 164, 156, 93, 87, 32] [(68, 18), (77, 0)] Try.func34 (by kernel_rfl) (by kernel_rfl)
theorem g4c : c8b (b1h Try.prog) := d1a g71 g4a g4d c8r g4b g39 d3n
theorem g70 : Has (b1h Try.prog) "newel/newelref06.Same" x_r06_Same := b2l 29 [] [] Try.func29 (by kernel_rfl) (by kernel_rfl)
theorem d3m : c4s (b1h Try.prog) := c3k g70
theorem g7v : Has (b1h Try.prog) "newel/newellaw06.sameRows" x_l06_sameRows := b2l 42 [] [] Try.func42 (by kernel_rfl) (by kernel_rfl)
theorem g31 : c76 (b1h Try.prog) := c6b g7v d3m
theorem g7u : Has (b1h Try.prog) "newel/newellaw06.sameDays" x_l06_sameDays := b2l 35 [3, 20, 13, 7, 2, 18, 11, 5] [] Try.func35 (by kernel_rfl) (by kernel_rfl)
theorem g30 : c75 (b1h Try.prog) := d06 g7u d3m g31
theorem g7t : Has (b1h Try.prog) "newel/newellaw06.HallsWitnesses" x_l06_HallsWitnesses := b2l 8 [3] [] Try.func8 (by kernel_rfl) (by kernel_rfl)
theorem g3z : d2x (b1h Try.prog) := j07 g7t g3y g32 g3o g4c g30
end Go.Nw.HM
