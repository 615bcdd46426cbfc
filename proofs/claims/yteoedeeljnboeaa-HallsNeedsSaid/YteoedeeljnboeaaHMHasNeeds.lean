/- The contracts of the functions that the law reaches, of the given program. -/
import Derived.Test.YteoedeeljnboeaaKHM1
import Derived.Test.YteoedeeljnboeaaKHM2
import Derived.Test.YteoedeeljnboeaaKHM3
import Derived.Test.YteoedeeljnboeaaNwHas
import Derived.Test.YteoedeeljnboeaaProg
set_option linter.all false
set_option linter.unusedVariables false
set_option linter.unusedSimpArgs false
set_option linter.unusedSectionVars false
namespace Go.Nw.HM
open Go.Proofs Go.Nw.Halls
set_option maxRecDepth 100000
instance cfg : Cfg := ⟨fun _ => none, fun _ => false⟩
theorem g8i : Has (b1h Try.prog) "newel/newellaw06.Far" x_l06_Far := b2r 13 [1, 37, 31, 25, 21, 15, 9, 4] [] Try.func13 (by kernel_rfl) (by kernel_rfl)
theorem g4u : c8d (b1h Try.prog) := d1e g8i
theorem g8h : Has (b1h Try.prog) "newel/newellaw06.Example" x_l06_Example := b2r 47 [] [] Try.func47 (by kernel_rfl) (by kernel_rfl)
theorem g4t : c8c (b1h Try.prog) := c6i g8h
theorem g79 : Has (b1h Try.prog) "newel/halls.in" x_halls_in := b2r 66 [3, 11, 5] [] Try.func66 (by kernel_rfl) (by kernel_rfl)
theorem d3v : c4w (b1h Try.prog) := b9e g79
theorem g8g : Has (b1h Try.prog) "newel/halls.span" x_halls_span := b2r 76 [3, 19, 14, 12, 8] [] Try.func76 (by kernel_rfl) (by kernel_rfl)
theorem d3x : c4y (b1h Try.prog) := b9g g8g
theorem g8a : Has (b1h Try.prog) "newel/halls.isComb" x_halls_isComb := b2r 62 [2, 33, 6] [] Try.func62 (by kernel_rfl) (by kernel_rfl)
theorem g4o : c78 (b1h Try.prog) := d1a g8a d3v d3x
theorem g8z : Has (b1h Try.prog) "slices.IndexFunc[[]newel/api.Train,newel/api.Train]" x_slices_IndexFunc___api_Train_api_Train_ := b2r 77 [] [] Try.func77 (by kernel_rfl) (by kernel_rfl)
theorem g5c : c8o (b1h Try.prog) := d1m g8z
theorem g8x : Has (b1h Try.prog) "slices.ContainsFunc[[]newel/api.Train,newel/api.Train]" x_slices_ContainsFunc___api_Train_api_Train_ := b2r 63 [] [] Try.func63 (by kernel_rfl) (by kernel_rfl)
theorem g5a : c8m (b1h Try.prog) := d1k g8x g5c
theorem g8b : Has (b1h Try.prog) "newel/halls.isTrain" x_halls_isTrain := b2r 65 [3, 43, 36, 8, 2, 38, 22] [] Try.func65 (by kernel_rfl) (by kernel_rfl)
theorem g4p : c79 (b1h Try.prog) := d1b g8b d3x
theorem g71 : Has (b1h Try.prog) "newel/halls.Check$1" x_halls_CheckD1 := b2r 64 [2] [] Try.func64 (by kernel_rfl) (by kernel_rfl)
theorem g4j : c73 (b1h Try.prog) := d05 g71 g4p
theorem g70 : Has (b1h Try.prog) "newel/halls.Check" x_halls_Check := b2r 41 [1, 95, 77, 67, 53, 49, 38, 33, 27, 21, 15, 10, 6] [] Try.func41 (by kernel_rfl) (by kernel_rfl)
theorem d3s : c4t (b1h Try.prog) := c3m g70 g4o g5a g4j d3v
theorem g80 : Has (b1h Try.prog) "slices.IndexFunc[[]int,int]" x_slices_IndexFunc___int_int_ := b2r 69 [] [] Try.func69 (by kernel_rfl) (by kernel_rfl)
theorem d32 : c43 (b1h Try.prog) := c3u g80
theorem g8y : Has (b1h Try.prog) "slices.ContainsFunc[[]int,int]" x_slices_ContainsFunc___int_int_ := b2r 67 [] [] Try.func67 (by kernel_rfl) (by kernel_rfl)
theorem g5b : c8n (b1h Try.prog) := d1l g8y d32
theorem g78 : Has (b1h Try.prog) "newel/halls.check$1" x_halls_checkD1 := b2r 68 [] [] Try.func68 (by kernel_rfl) (by kernel_rfl)
theorem g4n : c77 (b1h Try.prog) := d09 g78
theorem g77 : Has (b1h Try.prog) "newel/halls.check" x_halls_check := b2r 48 [3, 17] [] Try.func48 (by kernel_rfl) (by kernel_rfl)
theorem d3u : c4v (b1h Try.prog) := c3o g77 d3s g5b g4n
theorem g8f : Has (b1h Try.prog) "newel/halls.rates" x_halls_rates := b2r 59 [2, 48, 40, 29, 24, 12, 9] [] Try.func59 (by kernel_rfl) (by kernel_rfl)
theorem g4r : c8b (b1h Try.prog) := d1d g8f
theorem g8c : Has (b1h Try.prog) "newel/halls.open" x_halls_open := b2r 49 [1, 4] [(9, 0)] Try.func49 (by kernel_rfl) (by kernel_rfl)
theorem c8z : c2d (b1h Try.prog) := b9f g8c g4r
theorem g76 : Has (b1h Try.prog) "newel/halls.brought" x_halls_brought := b2r 71 [4, 13] [] Try.func71 (by kernel_rfl) (by kernel_rfl)
theorem g4m : c76 (b1h Try.prog) := d08 g76
theorem g7y : Has (b1h Try.prog) "(*newel/halls.bound).passes" x___halls_bound__passes := b2r 72 [] [] Try.func72 (by kernel_rfl) (by kernel_rfl)
theorem g39 : c71 (b1h Try.prog) := d03 g7y
theorem g75 : Has (b1h Try.prog) "newel/halls.bounds" x_halls_bounds := b2r 51 [2, 120, 49, 36, 31, 26, 16] [(74, 5), (40, 9), (70, 7)] Try.func51 (by kernel_rfl) (by kernel_rfl)
theorem c8y : c2c (b1h Try.prog) := b9d g75 g4m g39
theorem g8e : Has (b1h Try.prog) "newel/halls.over$1" x_halls_overD1 := b2r 70 [] [] Try.func70 (by kernel_rfl) (by kernel_rfl)
theorem g4q : c8a (b1h Try.prog) := d1c g8e
theorem g8d : Has (b1h Try.prog) "newel/halls.over" x_halls_over := b2r 50 [2] [] Try.func50 (by kernel_rfl) (by kernel_rfl)
theorem d3w : c4x (b1h Try.prog) := c3p g8d d32 g4q
theorem g72 : Has (b1h Try.prog) "newel/halls.Guard" x_halls_Guard := b2r 16 [3, 34] [(1000004, 2000049), (1000007, 2000051)] Try.func16 (by kernel_rfl) (by kernel_rfl)
theorem d3t : c4u (b1h Try.prog) := c3n g72 d3u c8z c8y d3w
theorem g74 : Has (b1h Try.prog) "newel/halls.Over" x_halls_Over := b2r 18 [1] [(1000004, 2000049), (1000004, 2000051)] Try.func18 (by kernel_rfl) (by kernel_rfl)
theorem g4l : c75 (b1h Try.prog) := d07 g74 d3s c8z c8y d3w
theorem g8k : Has (b1h Try.prog) "newel/newellaw06.works" x_l06_works := b2r 15 [] [] Try.func15 (by kernel_rfl) (by kernel_rfl)
theorem g4w : c8e (b1h Try.prog) := c6j g8k g4t d3t g4l
theorem g73 : Has (b1h Try.prog) "newel/halls.Need" x_halls_Need := b2r 21 [2, 51, 31, 25] [(1000004, 2000049), (1000004, 2000051), (1000004, 26), (1000004, 28), (1000004, 29)] Try.func21 (by kernel_rfl) (by kernel_rfl)
theorem g4k : c74 (b1h Try.prog) := d06 g73 d3u c8z c8y
theorem g8w : Has (b1h Try.prog) "newel/newelref06.within" x_r06_within := b2r 45 [] [] Try.func45 (by kernel_rfl) (by kernel_rfl)
theorem c80 : c2e (b1h Try.prog) := b44 g8w
theorem g8v : Has (b1h Try.prog) "newel/newelref06.spanned" x_r06_spanned := b2r 46 [3, 19, 14, 12, 7] [] Try.func46 (by kernel_rfl) (by kernel_rfl)
theorem g49 : c8l (b1h Try.prog) := c1a g8v
theorem g8n : Has (b1h Try.prog) "newel/newelref06.Check" x_r06_Check := b2r 14 [1, 178, 153, 146, 140, 93, 86, 80, 43, 35, 30, 24, 17, 12] [] Try.func14 (by kernel_rfl) (by kernel_rfl)
theorem d3z : c40 (b1h Try.prog) := c3r g8n c80 g49
theorem g8r : Has (b1h Try.prog) "newel/newelref06.comb" x_r06_comb := b2r 53 [2, 6] [] Try.func53 (by kernel_rfl) (by kernel_rfl)
theorem d30 : c41 (b1h Try.prog) := c3s g8r c80
theorem g8m : Has (b1h Try.prog) "newel/newelref06.At" x_r06_At := b2r 25 [3, 39, 29, 23, 11] [] Try.func25 (by kernel_rfl) (by kernel_rfl)
theorem g43 : c8f (b1h Try.prog) := d1f g8m
theorem g7z : Has (b1h Try.prog) "(newel/newelref06.Bounds).pass" x__r06_Bounds__pass := b2r 73 [4, 14] [] Try.func73 (by kernel_rfl) (by kernel_rfl)
theorem g4a : c72 (b1h Try.prog) := d04 g7z
theorem g8u : Has (b1h Try.prog) "newel/newelref06.rates" x_r06_rates := b2r 52 [2, 53, 42, 33, 27, 19, 12, 8] [] Try.func52 (by kernel_rfl) (by kernel_rfl)
theorem d31 : c42 (b1h Try.prog) := c3t g8u
theorem g8l : Has (b1h Try.prog) "newel/newelref06.All" x_r06_All := b2r 56 [1, 229, 223, 216, 212, 164, 160, 157, 143, 134, 116, 61, 55, 49, 43, 36, 32, 26] [(116, 13), (116, 14), (118, 5), (118, 18)] Try.func56 (by kernel_rfl) (by kernel_rfl)
theorem d3y : c4z (b1h Try.prog) := c3q g8l g4a d31
theorem g8s : Has (b1h Try.prog) "newel/newelref06.fits" x_r06_fits := b2r 54 [3, 28, 19] [] Try.func54 (by kernel_rfl) (by kernel_rfl)
theorem g47 : c8j (b1h Try.prog) := c6k g8s g43 d3y
theorem g8p : Has (b1h Try.prog) "newel/newelref06.Need" x_r06_Need := b2r 22 [2] [] Try.func22 (by kernel_rfl) (by kernel_rfl)
theorem g45 : c8h (b1h Try.prog) := d1h g8p d3z d30 g47
theorem g8q : Has (b1h Try.prog) "newel/newelref06.Shut" x_r06_Shut := b2r 17 [4, 125, 116, 110, 96, 64, 58, 44, 32, 27] [] Try.func17 (by kernel_rfl) (by kernel_rfl)
theorem g46 : c8i (b1h Try.prog) := d1i g8q d31
theorem g8t : Has (b1h Try.prog) "newel/newelref06.over" x_r06_over := b2r 55 [1, 30, 17, 10] [] Try.func55 (by kernel_rfl) (by kernel_rfl)
theorem g48 : c8k (b1h Try.prog) := d1j g8t d3y
theorem g8o : Has (b1h Try.prog) "newel/newelref06.Guard" x_r06_Guard := b2r 23 [3, 25, 18] [] Try.func23 (by kernel_rfl) (by kernel_rfl)
theorem g44 : c8g (b1h Try.prog) := d1g g8o d3z d30 c80 g46 g48
theorem g8j : Has (b1h Try.prog) "newel/newellaw06.HallsNeeds" x_l06_HallsNeeds := b2r 5 [3] [] Try.func5 (by kernel_rfl) (by kernel_rfl)
theorem g4v : d26 (b1h Try.prog) := j1x g8j g4u g4w g4k g45 d3t g44
end Go.Nw.HM
