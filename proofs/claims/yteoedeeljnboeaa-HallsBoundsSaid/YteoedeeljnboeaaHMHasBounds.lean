/- The contracts of the functions that the law reaches, of the given program. -/
import Derived.Test.YteoedeeljnboeaaKHM1
import Derived.Test.YteoedeeljnboeaaKHM2
import Derived.Test.YteoedeeljnboeaaKHM3
import Derived.Test.YteoedeeljnboeaaNwHas
import Derived.Test.YteoedeeljnboeaaProg
set_option linter.all false
set_option linter.unusedVariables false
set_option linter.unusedSimpArgs false
set_option linter.unusedSectionVars false
namespace Go.Nw.HM
open Go.Proofs Go.Nw.Halls
set_option maxRecDepth 100000
instance cfg : Cfg := ⟨fun _ => none, fun _ => false⟩
theorem g7f : Has (b1c Try.prog) "newel/newellaw06.Far" x_l06_Far := b2h 13 [1, 37, 31, 25, 21, 15, 9, 4] [] Try.func13 (by kernel_rfl) (by kernel_rfl)
theorem g3o : c7z (b1c Try.prog) := d0x g7f
theorem g7e : Has (b1c Try.prog) "newel/newellaw06.Example" x_l06_Example := b2h 47 [] [] Try.func47 (by kernel_rfl) (by kernel_rfl)
theorem g3n : c7y (b1c Try.prog) := c56 g7e
theorem g66 : Has (b1c Try.prog) "newel/halls.in" x_halls_in := b2h 66 [3, 11, 5] [] Try.func66 (by kernel_rfl) (by kernel_rfl)
theorem d28 : c4k (b1c Try.prog) := b88 g66
theorem g7d : Has (b1c Try.prog) "newel/halls.span" x_halls_span := b2h 76 [3, 19, 14, 12, 8] [] Try.func76 (by kernel_rfl) (by kernel_rfl)
theorem d3a : c4m (b1c Try.prog) := b89 g7d
theorem g67 : Has (b1c Try.prog) "newel/halls.isComb" x_halls_isComb := b2h 62 [2, 33, 6] [] Try.func62 (by kernel_rfl) (by kernel_rfl)
theorem g3i : c7u (b1c Try.prog) := d0t g67 d28 d3a
theorem g7w : Has (b1c Try.prog) "slices.IndexFunc[[]newel/api.Train,newel/api.Train]" x_slices_IndexFunc___api_Train_api_Train_ := b2h 77 [] [] Try.func77 (by kernel_rfl) (by kernel_rfl)
theorem g37 : c8b (b1c Try.prog) := d07 g7w
theorem g7u : Has (b1c Try.prog) "slices.ContainsFunc[[]newel/api.Train,newel/api.Train]" x_slices_ContainsFunc___api_Train_api_Train_ := b2h 63 [] [] Try.func63 (by kernel_rfl) (by kernel_rfl)
theorem g35 : c79 (b1c Try.prog) := d05 g7u g37
theorem g68 : Has (b1c Try.prog) "newel/halls.isTrain" x_halls_isTrain := b2h 65 [3, 43, 36, 8, 2, 38, 22] [] Try.func65 (by kernel_rfl) (by kernel_rfl)
theorem g3j : c7v (b1c Try.prog) := d0u g68 d3a
theorem g6w : Has (b1c Try.prog) "newel/halls.Check$1" x_halls_CheckD1 := b2h 64 [2] [] Try.func64 (by kernel_rfl) (by kernel_rfl)
theorem g3b : c7n (b1c Try.prog) := d0m g6w g3j
theorem g6v : Has (b1c Try.prog) "newel/halls.Check" x_halls_Check := b2h 41 [1, 95, 77, 67, 53, 49, 38, 33, 27, 21, 15, 10, 6] [] Try.func41 (by kernel_rfl) (by kernel_rfl)
theorem c8i : c15 (b1c Try.prog) := b85 g6v g3i g35 g3b d28
theorem g7x : Has (b1c Try.prog) "slices.IndexFunc[[]int,int]" x_slices_IndexFunc___int_int_ := b2h 69 [] [] Try.func69 (by kernel_rfl) (by kernel_rfl)
theorem d3c : c4o (b1c Try.prog) := c3l g7x
theorem g7v : Has (b1c Try.prog) "slices.ContainsFunc[[]int,int]" x_slices_ContainsFunc___int_int_ := b2h 67 [] [] Try.func67 (by kernel_rfl) (by kernel_rfl)
theorem g36 : c8a (b1c Try.prog) := d06 g7v d3c
theorem g65 : Has (b1c Try.prog) "newel/halls.check$1" x_halls_checkD1 := b2h 68 [] [] Try.func68 (by kernel_rfl) (by kernel_rfl)
theorem g3h : c7t (b1c Try.prog) := d0s g65
theorem g64 : Has (b1c Try.prog) "newel/halls.check" x_halls_check := b2h 48 [3, 17] [] Try.func48 (by kernel_rfl) (by kernel_rfl)
theorem c8j : c16 (b1c Try.prog) := b86 g64 c8i g36 g3h
theorem g7c : Has (b1c Try.prog) "newel/halls.rates" x_halls_rates := b2h 59 [2, 48, 40, 29, 24, 12, 9] [] Try.func59 (by kernel_rfl) (by kernel_rfl)
theorem g3l : c7x (b1c Try.prog) := d0w g7c
theorem g69 : Has (b1c Try.prog) "newel/halls.open" x_halls_open := b2h 49 [1, 4] [(9, 0)] Try.func49 (by kernel_rfl) (by kernel_rfl)
theorem c2l : b8b (b1c Try.prog) := b58 g69 g3l
theorem g63 : Has (b1c Try.prog) "newel/halls.brought" x_halls_brought := b2h 71 [4, 13] [] Try.func71 (by kernel_rfl) (by kernel_rfl)
theorem g3g : c7s (b1c Try.prog) := d0r g63
theorem g6t : Has (b1c Try.prog) "(*newel/halls.bound).passes" x___halls_bound__passes := b2h 72 [] [] Try.func72 (by kernel_rfl) (by kernel_rfl)
theorem g21 : c7l (b1c Try.prog) := d0k g6t
theorem g62 : Has (b1c Try.prog) "newel/halls.bounds" x_halls_bounds := b2h 51 [2, 120, 49, 36, 31, 26, 16] [(74, 5), (40, 9), (70, 7)] Try.func51 (by kernel_rfl) (by kernel_rfl)
theorem c2k : b8a (b1c Try.prog) := b57 g62 g3g g21
theorem g7b : Has (b1c Try.prog) "newel/halls.over$1" x_halls_overD1 := b2h 70 [] [] Try.func70 (by kernel_rfl) (by kernel_rfl)
theorem g3k : c7w (b1c Try.prog) := d0v g7b
theorem g7a : Has (b1c Try.prog) "newel/halls.over" x_halls_over := b2h 50 [2] [] Try.func50 (by kernel_rfl) (by kernel_rfl)
theorem d29 : c4l (b1c Try.prog) := c3j g7a d3c g3k
theorem g6z : Has (b1c Try.prog) "newel/halls.Guard" x_halls_Guard := b2h 16 [3, 34] [(1000004, 2000049), (1000007, 2000051)] Try.func16 (by kernel_rfl) (by kernel_rfl)
theorem g3e : c7q (b1c Try.prog) := d0p g6z c8j c2l c2k d29
theorem g61 : Has (b1c Try.prog) "newel/halls.Over" x_halls_Over := b2h 18 [1] [(1000004, 2000049), (1000004, 2000051)] Try.func18 (by kernel_rfl) (by kernel_rfl)
theorem d27 : c4j (b1c Try.prog) := c3i g61 c8i c2l c2k d29
theorem g7h : Has (b1c Try.prog) "newel/newellaw06.works" x_l06_works := b2h 15 [] [] Try.func15 (by kernel_rfl) (by kernel_rfl)
theorem g3q : c70 (b1c Try.prog) := c57 g7h g3n g3e d27
theorem g6x : Has (b1c Try.prog) "newel/halls.Come" x_halls_Come := b2h 26 [4] [(1000004, 2000049), (1000004, 2000051)] Try.func26 (by kernel_rfl) (by kernel_rfl)
theorem g3c : c7o (b1c Try.prog) := d0n g6x c8j c2l c2k
theorem g7t : Has (b1c Try.prog) "newel/newelref06.within" x_r06_within := b2h 45 [] [] Try.func45 (by kernel_rfl) (by kernel_rfl)
theorem c8k : c17 (b1c Try.prog) := b4k g7t
theorem g7s : Has (b1c Try.prog) "newel/newelref06.spanned" x_r06_spanned := b2h 46 [3, 19, 14, 12, 7] [] Try.func46 (by kernel_rfl) (by kernel_rfl)
theorem g34 : c78 (b1c Try.prog) := c07 g7s
theorem g7j : Has (b1c Try.prog) "newel/newelref06.Check" x_r06_Check := b2h 14 [1, 178, 153, 146, 140, 93, 86, 80, 43, 35, 30, 24, 17, 12] [] Try.func14 (by kernel_rfl) (by kernel_rfl)
theorem c4z : b91 (b1c Try.prog) := b63 g7j c8k g34
theorem g7p : Has (b1c Try.prog) "newel/newelref06.comb" x_r06_comb := b2h 53 [2, 6] [] Try.func53 (by kernel_rfl) (by kernel_rfl)
theorem d3b : c4n (b1c Try.prog) := c3k g7p c8k
theorem g6u : Has (b1c Try.prog) "(newel/newelref06.Bounds).pass" x__r06_Bounds__pass := b2h 73 [4, 14] [] Try.func73 (by kernel_rfl) (by kernel_rfl)
theorem g22 : c7m (b1c Try.prog) := d0l g6u
theorem g7r : Has (b1c Try.prog) "newel/newelref06.rates" x_r06_rates := b2h 52 [2, 53, 42, 33, 27, 19, 12, 8] [] Try.func52 (by kernel_rfl) (by kernel_rfl)
theorem g33 : c77 (b1c Try.prog) := d04 g7r
theorem g7i : Has (b1c Try.prog) "newel/newelref06.All" x_r06_All := b2h 56 [1, 229, 223, 216, 212, 164, 160, 157, 143, 134, 116, 61, 55, 49, 43, 36, 32, 26] [(116, 13), (116, 14), (118, 5), (118, 18)] Try.func56 (by kernel_rfl) (by kernel_rfl)
theorem c4y : b90 (b1c Try.prog) := b62 g7i g22 g33
theorem g7k : Has (b1c Try.prog) "newel/newelref06.Come" x_r06_Come := b2h 27 [4, 27, 19] [] Try.func27 (by kernel_rfl) (by kernel_rfl)
theorem g3x : c71 (b1c Try.prog) := d0y g7k c4z d3b c8k c4y
theorem g60 : Has (b1c Try.prog) "newel/halls.Most" x_halls_Most := b2h 20 [2] [(1000004, 2000049), (1000004, 2000051)] Try.func20 (by kernel_rfl) (by kernel_rfl)
theorem g3f : c7r (b1c Try.prog) := d0q g60 c8j c2l c2k
theorem g7m : Has (b1c Try.prog) "newel/newelref06.Most" x_r06_Most := b2h 28 [2] [] Try.func28 (by kernel_rfl) (by kernel_rfl)
theorem g3z : c73 (b1c Try.prog) := d00 g7m c4z d3b c4y
theorem g7o : Has (b1c Try.prog) "newel/newelref06.Same" x_r06_Same := b2h 29 [] [] Try.func29 (by kernel_rfl) (by kernel_rfl)
theorem g31 : c75 (b1c Try.prog) := d02 g7o
theorem g7q : Has (b1c Try.prog) "newel/newelref06.over" x_r06_over := b2h 55 [1, 30, 17, 10] [] Try.func55 (by kernel_rfl) (by kernel_rfl)
theorem g32 : c76 (b1c Try.prog) := d03 g7q c4y
theorem g7n : Has (b1c Try.prog) "newel/newelref06.Over" x_r06_Over := b2h 30 [1] [] Try.func30 (by kernel_rfl) (by kernel_rfl)
theorem g30 : c74 (b1c Try.prog) := d01 g7n c4z g32
theorem g6y : Has (b1c Try.prog) "newel/halls.Empty" x_halls_Empty := b2h 31 [1] [(1000005, 2000049), (1000005, 2000051)] Try.func31 (by kernel_rfl) (by kernel_rfl)
theorem g3d : c7p (b1c Try.prog) := d0o g6y c8i c2l c2k
theorem g7l : Has (b1c Try.prog) "newel/newelref06.Empty" x_r06_Empty := b2h 32 [1, 23, 15, 13] [] Try.func32 (by kernel_rfl) (by kernel_rfl)
theorem g3y : c72 (b1c Try.prog) := d0z g7l c4z c4y
theorem g7g : Has (b1c Try.prog) "newel/newellaw06.HallsBounds" x_l06_HallsBounds := b2h 7 [3, 56, 49, 42, 40, 38, 31, 29, 27, 2] [] Try.func7 (by kernel_rfl) (by kernel_rfl)
theorem g3p : d2o (b1c Try.prog) := j0t g7g g3o g3q g3c g3x g3f g3z g31 d27 g30 g3d g3y
end Go.Nw.HM
