/- The contracts of the functions that the law reaches, of the given program. -/
import Derived.Test.YtkoonfmgmgfmdaaDoorP1
import Derived.Test.YtkoonfmgmgfmdaaDoorKTM1
import Derived.Test.YtkoonfmgmgfmdaaDoorKTM2
import Derived.Test.YtkoonfmgmgfmdaaDoorNwHas
import Derived.Test.YtkoonfmgmgfmdaaDoorProg
set_option linter.all false
set_option linter.unusedVariables false
set_option linter.unusedSimpArgs false
set_option linter.unusedSectionVars false
namespace Go.Nw.TM
open Go.Proofs Go.Nw.Top
set_option maxRecDepth 100000
theorem g3o : d2h (b0t Tryd.prog) := fun r h => by cases h; exact ⟨l09, b0x, b0g _⟩
theorem g76 : Has (b0t Tryd.prog) "newel/newellaw06.Far" x_l06_Far := b1h 15 [1, 37, 31, 25, 21, 15, 9, 4] [] Tryd.func15 (by kernel_rfl) (by kernel_rfl)
theorem g3d : c73 (b0t Tryd.prog) := d0k g76
theorem g8g : Has (b0t Tryd.prog) "newel/newelref06.within" x_r06_within := b1h 36 [] [] Tryd.func36 (by kernel_rfl) (by kernel_rfl)
theorem d3a : c36 (b0t Tryd.prog) := b36 g8g
theorem g8f : Has (b0t Tryd.prog) "newel/newelref06.spanned" x_r06_spanned := b1h 37 [3, 19, 14, 12, 7] [] Tryd.func37 (by kernel_rfl) (by kernel_rfl)
theorem g3t : c8b (b0t Tryd.prog) := c0k g8f
theorem g8d : Has (b0t Tryd.prog) "newel/newelref06.Check" x_r06_Check := b1h 16 [1, 178, 153, 146, 140, 93, 86, 80, 43, 35, 30, 24, 17, 12] [] Tryd.func16 (by kernel_rfl) (by kernel_rfl)
theorem g3r : c79 (b0t Tryd.prog) := d0o g8d d3a g3t
theorem g8e : Has (b0t Tryd.prog) "newel/newelref06.Fits" x_r06_Fits := b1h 17 [3, 128, 119, 110, 79, 61, 47, 27, 18, 10, 2, 143, 136, 104, 42, 36, 30, 21, 13] [] Tryd.func17 (by kernel_rfl) (by kernel_rfl)
theorem g3s : c8a (b0t Tryd.prog) := d0p g8e d3a
theorem g8j : Has (b0t Tryd.prog) "newel/newelref10.from" x_r10_from := b1h 38 [] [] Tryd.func38 (by kernel_rfl) (by kernel_rfl)
theorem g3v : c8d (b0t Tryd.prog) := c0l g8j
theorem g8i : Has (b0t Tryd.prog) "newel/newelref10.Check" x_r10_Check := b1h 18 [] [] Tryd.func18 (by kernel_rfl) (by kernel_rfl)
theorem d3b : c37 (b0t Tryd.prog) := c2v g8i g3v
theorem g7y : Has (b0t Tryd.prog) "newel/halls.in" x_halls_in := b1h 66 [3, 11, 5] [] Tryd.func66 (by kernel_rfl) (by kernel_rfl)
theorem c4j : b83 (b0t Tryd.prog) := b5j g7y
theorem g75 : Has (b0t Tryd.prog) "newel/halls.span" x_halls_span := b1h 84 [3, 19, 14, 12, 8] [] Tryd.func84 (by kernel_rfl) (by kernel_rfl)
theorem d29 : c35 (b0t Tryd.prog) := b8l g75
theorem g7z : Has (b0t Tryd.prog) "newel/halls.isComb" x_halls_isComb := b1h 62 [2, 33, 6] [] Tryd.func62 (by kernel_rfl) (by kernel_rfl)
theorem g27 : c7y (b0t Tryd.prog) := d0f g7z c4j d29
theorem g8n : Has (b0t Tryd.prog) "slices.IndexFunc[[]newel/api.Train,newel/api.Train]" x_slices_IndexFunc___api_Train_api_Train_ := b1h 85 [] [] Tryd.func85 (by kernel_rfl) (by kernel_rfl)
theorem g3y : c8g (b0t Tryd.prog) := d0t g8n
theorem g8l : Has (b0t Tryd.prog) "slices.ContainsFunc[[]newel/api.Train,newel/api.Train]" x_slices_ContainsFunc___api_Train_api_Train_ := b1h 63 [] [] Tryd.func63 (by kernel_rfl) (by kernel_rfl)
theorem g3x : c8f (b0t Tryd.prog) := d0s g8l g3y
theorem g72 : Has (b0t Tryd.prog) "newel/halls.isTrain" x_halls_isTrain := b1h 65 [3, 43, 36, 8, 2, 38, 22] [] Tryd.func65 (by kernel_rfl) (by kernel_rfl)
theorem g3a : c71 (b0t Tryd.prog) := d0i g72 d29
theorem g7r : Has (b0t Tryd.prog) "newel/halls.Check$1" x_halls_CheckD1 := b1h 64 [2] [] Tryd.func64 (by kernel_rfl) (by kernel_rfl)
theorem g20 : c7r (b0t Tryd.prog) := c98 g7r g3a
theorem g7q : Has (b0t Tryd.prog) "newel/halls.Check" x_halls_Check := b1h 39 [1, 95, 77, 67, 53, 49, 38, 33, 27, 21, 15, 10, 6] [] Tryd.func39 (by kernel_rfl) (by kernel_rfl)
theorem d27 : c32 (b0t Tryd.prog) := c2t g7q g27 g3x g20 c4j
theorem g8o : Has (b0t Tryd.prog) "slices.IndexFunc[[]int,int]" x_slices_IndexFunc___int_int_ := b1h 83 [] [] Tryd.func83 (by kernel_rfl) (by kernel_rfl)
theorem g3z : c8h (b0t Tryd.prog) := d0u g8o
theorem g8m : Has (b0t Tryd.prog) "slices.ContainsFunc[[]int,int]" x_slices_ContainsFunc___int_int_ := b1h 60 [] [] Tryd.func60 (by kernel_rfl) (by kernel_rfl)
theorem d3c : c38 (b0t Tryd.prog) := c2w g8m g3z
theorem g71 : Has (b0t Tryd.prog) "newel/halls.isDay$1" x_halls_isDayD1 := b1h 67 [] [] Tryd.func67 (by kernel_rfl) (by kernel_rfl)
theorem g29 : c70 (b0t Tryd.prog) := d0h g71 c4j
theorem g70 : Has (b0t Tryd.prog) "newel/halls.isDay" x_halls_isDay := b1h 40 [3, 114, 105, 97, 74, 55, 45, 29, 20, 12, 2, 88, 37, 32, 23, 15] [] Tryd.func40 (by kernel_rfl) (by kernel_rfl)
theorem g28 : c7z (b0t Tryd.prog) := d0g g70 c4j d3c g29
theorem g74 : Has (b0t Tryd.prog) "newel/halls.rates" x_halls_rates := b1h 41 [2, 48, 40, 29, 24, 12, 9] [] Tryd.func41 (by kernel_rfl) (by kernel_rfl)
theorem d28 : c33 (b0t Tryd.prog) := c2u g74
theorem g7t : Has (b0t Tryd.prog) "newel/halls.Play" x_halls_Play := b1h 19 [3, 146, 140, 70, 59, 2, 167, 155, 124, 86, 82, 42, 35, 30] [] Tryd.func19 (by kernel_rfl) (by kernel_rfl)
theorem g22 : c7t (b0t Tryd.prog) := d0a g7t d27 g28 d28
theorem g7x : Has (b0t Tryd.prog) "newel/halls.check$1" x_halls_checkD1 := b1h 68 [] [] Tryd.func68 (by kernel_rfl) (by kernel_rfl)
theorem g26 : c7x (b0t Tryd.prog) := d0e g7x
theorem g7w : Has (b0t Tryd.prog) "newel/halls.check" x_halls_check := b1h 42 [3, 17] [] Tryd.func42 (by kernel_rfl) (by kernel_rfl)
theorem g25 : c7w (b0t Tryd.prog) := d0d g7w d27 d3c g26
theorem g73 : Has (b0t Tryd.prog) "newel/halls.open" x_halls_open := b1h 44 [1, 4] [(9, 0)] Tryd.func44 (by kernel_rfl) (by kernel_rfl)
theorem g3b : c72 (b0t Tryd.prog) := d0j g73 d28
theorem g7v : Has (b0t Tryd.prog) "newel/halls.brought" x_halls_brought := b1h 69 [4, 13] [] Tryd.func69 (by kernel_rfl) (by kernel_rfl)
theorem g24 : c7v (b0t Tryd.prog) := d0c g7v
theorem g7g : Has (b0t Tryd.prog) "(*newel/halls.bound).passes" x___halls_bound__passes := b1h 70 [] [] Tryd.func70 (by kernel_rfl) (by kernel_rfl)
theorem g2l : c7k (b0t Tryd.prog) := c94 g7g
theorem g7u : Has (b0t Tryd.prog) "newel/halls.bounds" x_halls_bounds := b1h 43 [2, 120, 49, 36, 31, 26, 16] [(74, 5), (40, 9), (70, 7)] Tryd.func43 (by kernel_rfl) (by kernel_rfl)
theorem g23 : c7u (b0t Tryd.prog) := d0b g7u g24 g2l
theorem g7s : Has (b0t Tryd.prog) "newel/halls.Most" x_halls_Most := b1h 20 [2] [(1000004, 2000044), (1000004, 2000043)] Tryd.func20 (by kernel_rfl) (by kernel_rfl)
theorem g21 : c7s (b0t Tryd.prog) := c99 g7s g25 g3b g23
theorem g8h : Has (b0t Tryd.prog) "newel/newelref10.Allows" x_r10_Allows := b1h 29 [1, 16, 12, 8, 6, 4] [] Tryd.func29 (by kernel_rfl) (by kernel_rfl)
theorem g3u : c8c (b0t Tryd.prog) := d0q g8h
theorem g8c : Has (b0t Tryd.prog) "newel/neweltop.allow" x_neweltop_allow := b1h 10 [] [] Tryd.func10 (by kernel_rfl) (by kernel_rfl)
theorem g3n : c78 (b0t Tryd.prog) := c57 g8c d3b g3u
theorem g7p : Has (b0t Tryd.prog) "newel/faults.within" x_faults_within := b1h 55 [] [] Tryd.func55 (by kernel_rfl) (by kernel_rfl)
theorem g2y : c7q (b0t Tryd.prog) := c0j g7p
theorem g7o : Has (b0t Tryd.prog) "newel/faults.readings" x_faults_readings := b1h 30 [] [] Tryd.func30 (by kernel_rfl) (by kernel_rfl)
theorem d26 : c31 (b0t Tryd.prog) := c2s g7o g2y
theorem g7l : Has (b0t Tryd.prog) "newel/faults.common" x_faults_common := b1h 31 [] [(18, 6), (1000009, 6), (1000009, 48), (1000009, 50)] Tryd.func31 (by kernel_rfl) (by kernel_rfl)
theorem d24 : c3z (b0t Tryd.prog) := c2r g7l
theorem g7k : Has (b0t Tryd.prog) "newel/faults.Truth" x_faults_Truth := b1h 11 [] [] Tryd.func11 (by kernel_rfl) (by kernel_rfl)
theorem g2w : c7o (b0t Tryd.prog) := c55 g7k d26 d24
theorem g78 : Has (b0t Tryd.prog) "math/bits.OnesCount64" x_math_bits_OnesCount64 := b1h 79 [] [] Tryd.func79 (by kernel_rfl) (by kernel_rfl)
theorem g3h : c75 (b0t Tryd.prog) := d0l g78
theorem g77 : Has (b0t Tryd.prog) "math/bits.OnesCount" x_math_bits_OnesCount := b1h 56 [] [] Tryd.func56 (by kernel_rfl) (by kernel_rfl)
theorem g3g : c74 (b0t Tryd.prog) := c56 g77 g3h
theorem g8a : Has (b0t Tryd.prog) "math/bits.TrailingZeros64" x_math_bits_TrailingZeros64 := b1h 82 [] [] Tryd.func82 (by kernel_rfl) (by kernel_rfl)
theorem g3j : c77 (b0t Tryd.prog) := d0n g8a
theorem g79 : Has (b0t Tryd.prog) "math/bits.TrailingZeros" x_math_bits_TrailingZeros := b1h 58 [] [] Tryd.func58 (by kernel_rfl) (by kernel_rfl)
theorem g3i : c76 (b0t Tryd.prog) := d0m g79 g3j
theorem g7n : Has (b0t Tryd.prog) "newel/faults.members" x_faults_members := b1h 33 [] [] Tryd.func33 (by kernel_rfl) (by kernel_rfl)
theorem d25 : c30 (b0t Tryd.prog) := c0i g7n g3i
theorem g7i : Has (b0t Tryd.prog) "cmp.isNaN[int]" x_cmp_isNaN_int_ := b1h 95 [] [] Tryd.func95 (by kernel_rfl) (by kernel_rfl)
theorem g2t : c7m (b0t Tryd.prog) := c54 g7i
theorem g7h : Has (b0t Tryd.prog) "cmp.Compare[int]" x_cmp_Compare_int_ := b1h 80 [] [] Tryd.func80 (by kernel_rfl) (by kernel_rfl)
theorem g2s : c7l (b0t Tryd.prog) := c95 g7h g2t
theorem g8k : Has (b0t Tryd.prog) "slices.Compare[[]int,int]" x_slices_Compare___int_int_ := b1h 57 [] [] Tryd.func57 (by kernel_rfl) (by kernel_rfl)
theorem g3w : c8e (b0t Tryd.prog) := d0r g8k g2s
theorem g7m : Has (b0t Tryd.prog) "newel/faults.fewer" x_faults_fewer := b1h 32 [] [] Tryd.func32 (by kernel_rfl) (by kernel_rfl)
theorem g2x : c7p (b0t Tryd.prog) := c97 g7m g3g d25 g3w
theorem g7j : Has (b0t Tryd.prog) "newel/faults.Liars" x_faults_Liars := b1h 12 [] [] Tryd.func12 (by kernel_rfl) (by kernel_rfl)
theorem g2v : c7n (b0t Tryd.prog) := c96 g7j d26 d24 g2x d25
theorem g8b : Has (b0t Tryd.prog) "newel/neweltop.TopCounted" x_neweltop_TopCounted := b1h 4 [5, 205, 191, 137, 126, 121, 117, 106, 79, 65, 59, 52, 47, 39, 34, 4, 3, 111, 100, 93, 54, 41] [(28, 13)] Tryd.func4 (by kernel_rfl) (by kernel_rfl)
theorem g3m : d2g (b0t Tryd.prog) := j1n g8b g3d g3r g3s d3b g3o g22 g21 g3n g2w g2v
end Go.Nw.TM
