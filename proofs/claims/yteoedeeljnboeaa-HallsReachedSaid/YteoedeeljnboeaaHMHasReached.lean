/- The contracts of the functions that the law reaches, of the given program. -/
import Derived.Test.YteoedeeljnboeaaKHM1
import Derived.Test.YteoedeeljnboeaaKHM2
import Derived.Test.YteoedeeljnboeaaKHM3
import Derived.Test.YteoedeeljnboeaaNwHas
import Derived.Test.YteoedeeljnboeaaProg
set_option linter.all false
set_option linter.unusedVariables false
set_option linter.unusedSimpArgs false
set_option linter.unusedSectionVars false
namespace Go.Nw.HM
open Go.Proofs Go.Nw.Halls
set_option maxRecDepth 100000
instance cfg : Cfg := ⟨fun _ => none, fun _ => false⟩
theorem g7n : Has (b08 Try.prog) "newel/newellaw06.Far" x_l06_Far := b2g 13 [1, 37, 31, 25, 21, 15, 9, 4] [] Try.func13 (by kernel_rfl) (by kernel_rfl)
theorem g3z : c7v (b08 Try.prog) := d04 g7n
theorem g7v : Has (b08 Try.prog) "newel/newelref06.within" x_r06_within := b2g 45 [] [] Try.func45 (by kernel_rfl) (by kernel_rfl)
theorem d30 : c4e (b08 Try.prog) := b4l g7v
theorem g7u : Has (b08 Try.prog) "newel/newelref06.spanned" x_r06_spanned := b2g 46 [3, 19, 14, 12, 7] [] Try.func46 (by kernel_rfl) (by kernel_rfl)
theorem g4c : c71 (b08 Try.prog) := c0z g7u
theorem g7r : Has (b08 Try.prog) "newel/newelref06.Check" x_r06_Check := b2g 14 [1, 178, 153, 146, 140, 93, 86, 80, 43, 35, 30, 24, 17, 12] [] Try.func14 (by kernel_rfl) (by kernel_rfl)
theorem g39 : c7y (b08 Try.prog) := d06 g7r d30 g4c
theorem g7m : Has (b08 Try.prog) "newel/newellaw06.Example" x_l06_Example := b2g 47 [] [] Try.func47 (by kernel_rfl) (by kernel_rfl)
theorem g3y : c7u (b08 Try.prog) := c6b g7m
theorem g7b : Has (b08 Try.prog) "newel/halls.in" x_halls_in := b2g 66 [3, 11, 5] [] Try.func66 (by kernel_rfl) (by kernel_rfl)
theorem c4p : b9r (b08 Try.prog) := b5m g7b
theorem g7l : Has (b08 Try.prog) "newel/halls.span" x_halls_span := b2g 76 [3, 19, 14, 12, 8] [] Try.func76 (by kernel_rfl) (by kernel_rfl)
theorem d3z : c4d (b08 Try.prog) := b88 g7l
theorem g7c : Has (b08 Try.prog) "newel/halls.isComb" x_halls_isComb := b2g 62 [2, 33, 6] [] Try.func62 (by kernel_rfl) (by kernel_rfl)
theorem g3r : c7o (b08 Try.prog) := d0y g7c c4p d3z
theorem g70 : Has (b08 Try.prog) "slices.IndexFunc[[]newel/api.Train,newel/api.Train]" x_slices_IndexFunc___api_Train_api_Train_ := b2g 77 [] [] Try.func77 (by kernel_rfl) (by kernel_rfl)
theorem g4g : c75 (b08 Try.prog) := d1c g70
theorem g7x : Has (b08 Try.prog) "slices.ContainsFunc[[]newel/api.Train,newel/api.Train]" x_slices_ContainsFunc___api_Train_api_Train_ := b2g 63 [] [] Try.func63 (by kernel_rfl) (by kernel_rfl)
theorem g4e : c73 (b08 Try.prog) := d1a g7x g4g
theorem g7f : Has (b08 Try.prog) "newel/halls.isTrain" x_halls_isTrain := b2g 65 [3, 43, 36, 8, 2, 38, 22] [] Try.func65 (by kernel_rfl) (by kernel_rfl)
theorem g3u : c7r (b08 Try.prog) := d01 g7f d3z
theorem g6z : Has (b08 Try.prog) "newel/halls.Check$1" x_halls_CheckD1 := b2g 64 [2] [] Try.func64 (by kernel_rfl) (by kernel_rfl)
theorem g3i : c7f (b08 Try.prog) := d0p g6z g3u
theorem g6y : Has (b08 Try.prog) "newel/halls.Check" x_halls_Check := b2g 41 [1, 95, 77, 67, 53, 49, 38, 33, 27, 21, 15, 10, 6] [] Try.func41 (by kernel_rfl) (by kernel_rfl)
theorem c8c : c1l (b08 Try.prog) := b83 g6y g3r g4e g3i c4p
theorem g71 : Has (b08 Try.prog) "slices.IndexFunc[[]int,int]" x_slices_IndexFunc___int_int_ := b2g 69 [] [] Try.func69 (by kernel_rfl) (by kernel_rfl)
theorem d32 : c4g (b08 Try.prog) := c3e g71
theorem g7y : Has (b08 Try.prog) "slices.ContainsFunc[[]int,int]" x_slices_ContainsFunc___int_int_ := b2g 67 [] [] Try.func67 (by kernel_rfl) (by kernel_rfl)
theorem d31 : c4f (b08 Try.prog) := c3d g7y d32
theorem g7a : Has (b08 Try.prog) "newel/halls.check$1" x_halls_checkD1 := b2g 68 [] [] Try.func68 (by kernel_rfl) (by kernel_rfl)
theorem g3q : c7n (b08 Try.prog) := d0x g7a
theorem g69 : Has (b08 Try.prog) "newel/halls.check" x_halls_check := b2g 48 [3, 17] [] Try.func48 (by kernel_rfl) (by kernel_rfl)
theorem c8e : c1n (b08 Try.prog) := b85 g69 c8c d31 g3q
theorem g7k : Has (b08 Try.prog) "newel/halls.rates" x_halls_rates := b2g 59 [2, 48, 40, 29, 24, 12, 9] [] Try.func59 (by kernel_rfl) (by kernel_rfl)
theorem c8g : c1p (b08 Try.prog) := b87 g7k
theorem g7h : Has (b08 Try.prog) "newel/halls.open" x_halls_open := b2g 49 [1, 4] [(9, 0)] Try.func49 (by kernel_rfl) (by kernel_rfl)
theorem g3v : c7s (b08 Try.prog) := d02 g7h c8g
theorem g68 : Has (b08 Try.prog) "newel/halls.brought" x_halls_brought := b2g 71 [4, 13] [] Try.func71 (by kernel_rfl) (by kernel_rfl)
theorem d3x : c4b (b08 Try.prog) := c3a g68
theorem g6x : Has (b08 Try.prog) "(*newel/halls.bound).passes" x___halls_bound__passes := b2g 72 [] [] Try.func72 (by kernel_rfl) (by kernel_rfl)
theorem d3w : c4a (b08 Try.prog) := c27 g6x
theorem g67 : Has (b08 Try.prog) "newel/halls.bounds" x_halls_bounds := b2g 51 [2, 120, 49, 36, 31, 26, 16] [(74, 5), (40, 9), (70, 7)] Try.func51 (by kernel_rfl) (by kernel_rfl)
theorem g3p : c7m (b08 Try.prog) := d0w g67 d3x d3w
theorem g7j : Has (b08 Try.prog) "newel/halls.over$1" x_halls_overD1 := b2g 70 [] [] Try.func70 (by kernel_rfl) (by kernel_rfl)
theorem g3w : c7t (b08 Try.prog) := d03 g7j
theorem g7i : Has (b08 Try.prog) "newel/halls.over" x_halls_over := b2g 50 [2] [] Try.func50 (by kernel_rfl) (by kernel_rfl)
theorem d3y : c4c (b08 Try.prog) := c3b g7i d32 g3w
theorem g60 : Has (b08 Try.prog) "newel/halls.Guard" x_halls_Guard := b2g 16 [3, 34] [(1000004, 2000049), (1000007, 2000051)] Try.func16 (by kernel_rfl) (by kernel_rfl)
theorem g3j : c7g (b08 Try.prog) := d0q g60 c8e g3v g3p d3y
theorem g7g : Has (b08 Try.prog) "newel/halls.open" x_halls_open := b2g 49 [1, 4] [(9, 0)] Try.func49 (by kernel_rfl) (by kernel_rfl)
theorem c8f : c1o (b08 Try.prog) := b86 g7g c8g
theorem g66 : Has (b08 Try.prog) "newel/halls.bounds" x_halls_bounds := b2g 51 [2, 120, 49, 36, 31, 26, 16] [(74, 5), (40, 9), (70, 7)] Try.func51 (by kernel_rfl) (by kernel_rfl)
theorem c8d : c1m (b08 Try.prog) := b84 g66 d3x d3w
theorem g62 : Has (b08 Try.prog) "newel/halls.Over" x_halls_Over := b2g 18 [1] [] Try.func18 (by kernel_rfl) (by kernel_rfl)
theorem g3l : c7i (b08 Try.prog) := d0s g62 c8c c8f c8d d3y
theorem g7q : Has (b08 Try.prog) "newel/newellaw06.works" x_l06_works := b2g 15 [] [] Try.func15 (by kernel_rfl) (by kernel_rfl)
theorem g32 : c7x (b08 Try.prog) := c3c g7q g3y g3j g3l
theorem g7z : Has (b08 Try.prog) "slices.IndexFunc[[]newel/api.Comb,newel/api.Comb]" x_slices_IndexFunc___api_Comb_api_Comb_ := b2g 74 [] [] Try.func74 (by kernel_rfl) (by kernel_rfl)
theorem g4f : c74 (b08 Try.prog) := d1b g7z
theorem g7w : Has (b08 Try.prog) "slices.ContainsFunc[[]newel/api.Comb,newel/api.Comb]" x_slices_ContainsFunc___api_Comb_api_Comb_ := b2g 57 [] [] Try.func57 (by kernel_rfl) (by kernel_rfl)
theorem g4d : c72 (b08 Try.prog) := d09 g7w g4f
theorem g65 : Has (b08 Try.prog) "newel/halls.Witness$1" x_halls_WitnessD1 := b2g 58 [2, 4] [] Try.func58 (by kernel_rfl) (by kernel_rfl)
theorem g3o : c7l (b08 Try.prog) := d0v g65
theorem g64 : Has (b08 Try.prog) "newel/halls.Witness" x_halls_Witness := b2g 33 [4, 3, 149, 84, 31] [(62, 17), (73, 0)] Try.func33 (by kernel_rfl) (by kernel_rfl)
theorem g3n : c7k (b08 Try.prog) := d0u g64 c8e g4d g3o c8f c8d
theorem g7s : Has (b08 Try.prog) "newel/newelref06.First" x_r06_First := b2g 44 [2, 13, 7] [] Try.func44 (by kernel_rfl) (by kernel_rfl)
theorem g4a : c7z (b08 Try.prog) := d07 g7s
theorem g61 : Has (b08 Try.prog) "newel/halls.Most" x_halls_Most := b2g 20 [2] [] Try.func20 (by kernel_rfl) (by kernel_rfl)
theorem g3k : c7h (b08 Try.prog) := d0r g61 c8e c8f c8d
theorem g7p : Has (b08 Try.prog) "newel/newellaw06.farDay" x_l06_farDay := b2g 36 [1, 42, 36, 28, 22, 16, 10, 5] [] Try.func36 (by kernel_rfl) (by kernel_rfl)
theorem g31 : c7w (b08 Try.prog) := d05 g7p
theorem g7t : Has (b08 Try.prog) "newel/newelref06.Fits" x_r06_Fits := b2g 43 [3, 128, 119, 110, 79, 61, 47, 27, 18, 10, 2, 143, 136, 104, 42, 36, 30, 21, 13] [] Try.func43 (by kernel_rfl) (by kernel_rfl)
theorem g4b : c70 (b08 Try.prog) := d08 g7t d30
theorem g7e : Has (b08 Try.prog) "newel/halls.isDay$1" x_halls_isDayD1 := b2g 75 [] [] Try.func75 (by kernel_rfl) (by kernel_rfl)
theorem g3t : c7q (b08 Try.prog) := d00 g7e c4p
theorem g7d : Has (b08 Try.prog) "newel/halls.isDay" x_halls_isDay := b2g 60 [3, 114, 105, 97, 74, 55, 45, 29, 20, 12, 2, 88, 37, 32, 23, 15] [] Try.func60 (by kernel_rfl) (by kernel_rfl)
theorem g3s : c7p (b08 Try.prog) := d0z g7d c4p d31 g3t
theorem g63 : Has (b08 Try.prog) "newel/halls.Play" x_halls_Play := b2g 39 [3, 146, 140, 70, 59, 2, 167, 155, 124, 86, 82, 42, 35, 30] [] Try.func39 (by kernel_rfl) (by kernel_rfl)
theorem g3m : c7j (b08 Try.prog) := d0t g63 c8c g3s c8g
theorem g7o : Has (b08 Try.prog) "newel/newellaw06.HallsReached" x_l06_HallsReached := b2g 12 [3, 108, 98, 83, 37, 26] [] Try.func12 (by kernel_rfl) (by kernel_rfl)
theorem g30 : d21 (b08 Try.prog) := j0x g7o g3z g39 g32 g3n g4a g3k g31 g4b g3m
end Go.Nw.HM
