/- The contracts of the functions that the law reaches, of the given program. -/
import Derived.Test.YteoedeeljnboeaaKHM1
import Derived.Test.YteoedeeljnboeaaKHM2
import Derived.Test.YteoedeeljnboeaaKHM3
import Derived.Test.YteoedeeljnboeaaNwHas
import Derived.Test.YteoedeeljnboeaaProg
set_option linter.all false
set_option linter.unusedVariables false
set_option linter.unusedSimpArgs false
set_option linter.unusedSectionVars false
namespace Go.Nw.HM
open Go.Proofs Go.Nw.Halls
set_option maxRecDepth 100000
instance cfg : Cfg := ⟨fun _ => none, fun _ => false⟩
theorem g6n : Has (b06 Try.prog) "newel/newellaw06.Far" x_l06_Far := b2i 13 [1, 37, 31, 25, 21, 15, 9, 4] [] Try.func13 (by kernel_rfl) (by kernel_rfl)
theorem g20 : c68 (b06 Try.prog) := d0h g6n
theorem g6p : Has (b06 Try.prog) "newel/newellaw06.farDay" x_l06_farDay := b2i 36 [1, 42, 36, 28, 22, 16, 10, 5] [] Try.func36 (by kernel_rfl) (by kernel_rfl)
theorem g22 : c69 (b06 Try.prog) := d0i g6p
theorem g6m : Has (b06 Try.prog) "newel/newellaw06.Example" x_l06_Example := b2i 47 [] [] Try.func47 (by kernel_rfl) (by kernel_rfl)
theorem g2z : c67 (b06 Try.prog) := c5k g6m
theorem g6b : Has (b06 Try.prog) "newel/halls.in" x_halls_in := b2i 66 [3, 11, 5] [] Try.func66 (by kernel_rfl) (by kernel_rfl)
theorem c32 : b8u (b06 Try.prog) := b48 g6b
theorem g6l : Has (b06 Try.prog) "newel/halls.span" x_halls_span := b2i 76 [3, 19, 14, 12, 8] [] Try.func76 (by kernel_rfl) (by kernel_rfl)
theorem d20 : c3l (b06 Try.prog) := b8b g6l
theorem g6c : Has (b06 Try.prog) "newel/halls.isComb" x_halls_isComb := b2i 62 [2, 33, 6] [] Try.func62 (by kernel_rfl) (by kernel_rfl)
theorem g2r : c60 (b06 Try.prog) := d0a g6c c32 d20
theorem g64 : Has (b06 Try.prog) "slices.IndexFunc[[]newel/api.Train,newel/api.Train]" x_slices_IndexFunc___api_Train_api_Train_ := b2i 77 [] [] Try.func77 (by kernel_rfl) (by kernel_rfl)
theorem g3i : c7j (b06 Try.prog) := d0q g64
theorem g62 : Has (b06 Try.prog) "slices.ContainsFunc[[]newel/api.Train,newel/api.Train]" x_slices_ContainsFunc___api_Train_api_Train_ := b2i 63 [] [] Try.func63 (by kernel_rfl) (by kernel_rfl)
theorem g3h : c7i (b06 Try.prog) := d0p g62 g3i
theorem g6f : Has (b06 Try.prog) "newel/halls.isTrain" x_halls_isTrain := b2i 65 [3, 43, 36, 8, 2, 38, 22] [] Try.func65 (by kernel_rfl) (by kernel_rfl)
theorem g2u : c63 (b06 Try.prog) := d0d g6f d20
theorem g51 : Has (b06 Try.prog) "newel/halls.Check$1" x_halls_CheckD1 := b2i 64 [2] [] Try.func64 (by kernel_rfl) (by kernel_rfl)
theorem g2j : c6s (b06 Try.prog) := c92 g51 g2u
theorem g50 : Has (b06 Try.prog) "newel/halls.Check" x_halls_Check := b2i 41 [1, 95, 77, 67, 53, 49, 38, 33, 27, 21, 15, 10, 6] [] Try.func41 (by kernel_rfl) (by kernel_rfl)
theorem c30 : b8t (b06 Try.prog) := b6f g50 g2r g3h g2j c32
theorem g65 : Has (b06 Try.prog) "slices.IndexFunc[[]int,int]" x_slices_IndexFunc___int_int_ := b2i 69 [] [] Try.func69 (by kernel_rfl) (by kernel_rfl)
theorem d24 : c3p (b06 Try.prog) := c2c g65
theorem g63 : Has (b06 Try.prog) "slices.ContainsFunc[[]int,int]" x_slices_ContainsFunc___int_int_ := b2i 67 [] [] Try.func67 (by kernel_rfl) (by kernel_rfl)
theorem d23 : c3o (b06 Try.prog) := c2b g63 d24
theorem g6a : Has (b06 Try.prog) "newel/halls.check$1" x_halls_checkD1 := b2i 68 [] [] Try.func68 (by kernel_rfl) (by kernel_rfl)
theorem g2q : c6z (b06 Try.prog) := c99 g6a
theorem g59 : Has (b06 Try.prog) "newel/halls.check" x_halls_check := b2i 48 [3, 17] [] Try.func48 (by kernel_rfl) (by kernel_rfl)
theorem d2y : c3j (b06 Try.prog) := c17 g59 c30 d23 g2q
theorem g6k : Has (b06 Try.prog) "newel/halls.rates" x_halls_rates := b2i 59 [2, 48, 40, 29, 24, 12, 9] [] Try.func59 (by kernel_rfl) (by kernel_rfl)
theorem c34 : b8v (b06 Try.prog) := b6g g6k
theorem g6h : Has (b06 Try.prog) "newel/halls.open" x_halls_open := b2i 49 [1, 4] [(9, 0)] Try.func49 (by kernel_rfl) (by kernel_rfl)
theorem g2w : c65 (b06 Try.prog) := d0f g6h c34
theorem g58 : Has (b06 Try.prog) "newel/halls.brought" x_halls_brought := b2i 71 [4, 13] [] Try.func71 (by kernel_rfl) (by kernel_rfl)
theorem d2x : c3i (b06 Try.prog) := c16 g58
theorem g5z : Has (b06 Try.prog) "(*newel/halls.bound).passes" x___halls_bound__passes := b2i 72 [] [] Try.func72 (by kernel_rfl) (by kernel_rfl)
theorem d2w : c3h (b06 Try.prog) := c15 g5z
theorem g57 : Has (b06 Try.prog) "newel/halls.bounds" x_halls_bounds := b2i 51 [2, 120, 49, 36, 31, 26, 16] [(74, 5), (40, 9), (70, 7)] Try.func51 (by kernel_rfl) (by kernel_rfl)
theorem g2p : c6y (b06 Try.prog) := c98 g57 d2x d2w
theorem g6j : Has (b06 Try.prog) "newel/halls.over$1" x_halls_overD1 := b2i 70 [] [] Try.func70 (by kernel_rfl) (by kernel_rfl)
theorem g2x : c66 (b06 Try.prog) := d0g g6j
theorem g6i : Has (b06 Try.prog) "newel/halls.over" x_halls_over := b2i 50 [2] [] Try.func50 (by kernel_rfl) (by kernel_rfl)
theorem d2z : c3k (b06 Try.prog) := c18 g6i d24 g2x
theorem g52 : Has (b06 Try.prog) "newel/halls.Guard" x_halls_Guard := b2i 16 [3, 34] [(1000004, 2000049), (1000007, 2000051)] Try.func16 (by kernel_rfl) (by kernel_rfl)
theorem g2k : c6t (b06 Try.prog) := c93 g52 d2y g2w g2p d2z
theorem g6g : Has (b06 Try.prog) "newel/halls.open" x_halls_open := b2i 49 [1, 4] [(9, 0)] Try.func49 (by kernel_rfl) (by kernel_rfl)
theorem g2v : c64 (b06 Try.prog) := d0e g6g c34
theorem g56 : Has (b06 Try.prog) "newel/halls.bounds" x_halls_bounds := b2i 51 [2, 120, 49, 36, 31, 26, 16] [(74, 5), (40, 9), (70, 7)] Try.func51 (by kernel_rfl) (by kernel_rfl)
theorem g2o : c6x (b06 Try.prog) := c97 g56 d2x d2w
theorem g53 : Has (b06 Try.prog) "newel/halls.Over" x_halls_Over := b2i 18 [1] [] Try.func18 (by kernel_rfl) (by kernel_rfl)
theorem g2l : c6u (b06 Try.prog) := c94 g53 c30 g2v g2o d2z
theorem g6r : Has (b06 Try.prog) "newel/newellaw06.works" x_l06_works := b2i 15 [] [] Try.func15 (by kernel_rfl) (by kernel_rfl)
theorem g24 : c7b (b06 Try.prog) := c5l g6r g2z g2k g2l
theorem g55 : Has (b06 Try.prog) "newel/halls.Rates" x_halls_Rates := b2i 37 [2] [] Try.func37 (by kernel_rfl) (by kernel_rfl)
theorem g2n : c6w (b06 Try.prog) := c96 g55 d2y c34
theorem g61 : Has (b06 Try.prog) "newel/newelref06.within" x_r06_within := b2i 45 [] [] Try.func45 (by kernel_rfl) (by kernel_rfl)
theorem c7u : c0n (b06 Try.prog) := b3t g61
theorem g60 : Has (b06 Try.prog) "newel/newelref06.spanned" x_r06_spanned := b2i 46 [3, 19, 14, 12, 7] [] Try.func46 (by kernel_rfl) (by kernel_rfl)
theorem g3g : c7h (b06 Try.prog) := b9w g60
theorem g6s : Has (b06 Try.prog) "newel/newelref06.Check" x_r06_Check := b2i 14 [1, 178, 153, 146, 140, 93, 86, 80, 43, 35, 30, 24, 17, 12] [] Try.func14 (by kernel_rfl) (by kernel_rfl)
theorem c7t : c0m (b06 Try.prog) := b8c g6s c7u g3g
theorem g6y : Has (b06 Try.prog) "newel/newelref06.comb" x_r06_comb := b2i 53 [2, 6] [] Try.func53 (by kernel_rfl) (by kernel_rfl)
theorem g3f : c7g (b06 Try.prog) := d0o g6y c7u
theorem g6z : Has (b06 Try.prog) "newel/newelref06.rates" x_r06_rates := b2i 52 [2, 53, 42, 33, 27, 19, 12, 8] [] Try.func52 (by kernel_rfl) (by kernel_rfl)
theorem d22 : c3n (b06 Try.prog) := c2a g6z
theorem g6v : Has (b06 Try.prog) "newel/newelref06.Rates" x_r06_Rates := b2i 38 [2] [] Try.func38 (by kernel_rfl) (by kernel_rfl)
theorem g3d : c7e (b06 Try.prog) := d0m g6v c7t g3f d22
theorem g6e : Has (b06 Try.prog) "newel/halls.isDay$1" x_halls_isDayD1 := b2i 75 [] [] Try.func75 (by kernel_rfl) (by kernel_rfl)
theorem g2t : c62 (b06 Try.prog) := d0c g6e c32
theorem g6d : Has (b06 Try.prog) "newel/halls.isDay" x_halls_isDay := b2i 60 [3, 114, 105, 97, 74, 55, 45, 29, 20, 12, 2, 88, 37, 32, 23, 15] [] Try.func60 (by kernel_rfl) (by kernel_rfl)
theorem g2s : c61 (b06 Try.prog) := d0b g6d c32 d23 g2t
theorem g54 : Has (b06 Try.prog) "newel/halls.Play" x_halls_Play := b2i 39 [3, 146, 140, 70, 59, 2, 167, 155, 124, 86, 82, 42, 35, 30] [] Try.func39 (by kernel_rfl) (by kernel_rfl)
theorem g2m : c6v (b06 Try.prog) := c95 g54 c30 g2s c34
theorem g6t : Has (b06 Try.prog) "newel/newelref06.Fits" x_r06_Fits := b2i 43 [3, 128, 119, 110, 79, 61, 47, 27, 18, 10, 2, 143, 136, 104, 42, 36, 30, 21, 13] [] Try.func43 (by kernel_rfl) (by kernel_rfl)
theorem g3b : c7c (b06 Try.prog) := d0k g6t c7u
theorem g6w : Has (b06 Try.prog) "newel/newelref06.Run" x_r06_Run := b2i 61 [3, 157, 151, 78, 59, 2, 184, 176, 167, 97, 66, 48, 41, 20, 16] [] Try.func61 (by kernel_rfl) (by kernel_rfl)
theorem g3e : c7f (b06 Try.prog) := d0n g6w d22
theorem g6u : Has (b06 Try.prog) "newel/newelref06.Play" x_r06_Play := b2i 40 [3, 2] [] Try.func40 (by kernel_rfl) (by kernel_rfl)
theorem g3c : c7d (b06 Try.prog) := d0l g6u c7t g3b g3e
theorem g6x : Has (b06 Try.prog) "newel/newelref06.Same" x_r06_Same := b2i 29 [] [] Try.func29 (by kernel_rfl) (by kernel_rfl)
theorem d21 : c3m (b06 Try.prog) := c19 g6x
theorem g6q : Has (b06 Try.prog) "newel/newellaw06.sameRows" x_l06_sameRows := b2i 42 [] [] Try.func42 (by kernel_rfl) (by kernel_rfl)
theorem g23 : c7a (b06 Try.prog) := d0j g6q d21
theorem g6o : Has (b06 Try.prog) "newel/newellaw06.HallsPlays" x_l06_HallsPlays := b2i 9 [4, 3] [] Try.func9 (by kernel_rfl) (by kernel_rfl)
theorem g21 : d19 (b06 Try.prog) := g9y g6o g20 g22 g24 g2n g3d g2m g3c c30 c7t d21 g23
end Go.Nw.HM
