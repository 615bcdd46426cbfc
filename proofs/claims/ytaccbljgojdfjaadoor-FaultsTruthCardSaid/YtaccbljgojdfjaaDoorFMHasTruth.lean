/- The contracts of the functions that the law reaches, of the given program. -/
import Derived.Test.YtaccbljgojdfjaaDoorP1
import Derived.Test.YtaccbljgojdfjaaDoorKFM1
import Derived.Test.YtaccbljgojdfjaaDoorNwHas
import Derived.Test.YtaccbljgojdfjaaDoorProg
set_option linter.all false
set_option linter.unusedVariables false
set_option linter.unusedSimpArgs false
set_option linter.unusedSectionVars false
namespace Go.Nw.FM
open Go.Proofs Go.Nw.Fault
set_option maxRecDepth 100000
theorem d0r : c2y (b0e Tryd.prog) := fun r h => by cases h; exact ⟨g54, b04, b0d _⟩
theorem d4n : Has (b0e Tryd.prog) "newel/newelref10.from" x_r10_from := b0k 37 [] [] Tryd.func37 (by kernel_rfl) (by kernel_rfl)
theorem d03 : b98 (b0e Tryd.prog) := b5v d4n
theorem d4m : Has (b0e Tryd.prog) "newel/newelref10.Check" x_r10_Check := b0k 13 [] [] Tryd.func13 (by kernel_rfl) (by kernel_rfl)
theorem d02 : b97 (b0e Tryd.prog) := c1r d4m d03
theorem d4e : Has (b0e Tryd.prog) "newel/faults.within" x_faults_within := b0k 42 [] [] Tryd.func42 (by kernel_rfl) (by kernel_rfl)
theorem d0m : b91 (b0e Tryd.prog) := b5t d4e
theorem d4d : Has (b0e Tryd.prog) "newel/faults.readings" x_faults_readings := b0k 31 [] [] Tryd.func31 (by kernel_rfl) (by kernel_rfl)
theorem c3d : b7o (b0e Tryd.prog) := b6y d4d d0m
theorem d4a : Has (b0e Tryd.prog) "newel/faults.common" x_faults_common := b0k 32 [] [(18, 6), (1000009, 6), (1000009, 48), (1000009, 50)] Tryd.func32 (by kernel_rfl) (by kernel_rfl)
theorem c3b : b7m (b0e Tryd.prog) := b6x d4a
theorem d39 : Has (b0e Tryd.prog) "newel/faults.Truth" x_faults_Truth := b0k 8 [] [] Tryd.func8 (by kernel_rfl) (by kernel_rfl)
theorem d0k : b9z (b0e Tryd.prog) := c1m d39 c3d c3b
theorem d4i : Has (b0e Tryd.prog) "math/bits.OnesCount64" x_math_bits_OnesCount64 := b0k 50 [] [] Tryd.func50 (by kernel_rfl) (by kernel_rfl)
theorem d0v : b94 (b0e Tryd.prog) := c1o d4i
theorem d4h : Has (b0e Tryd.prog) "math/bits.OnesCount" x_math_bits_OnesCount := b0k 43 [] [] Tryd.func43 (by kernel_rfl) (by kernel_rfl)
theorem d0u : b93 (b0e Tryd.prog) := b8t d4h d0v
theorem d4k : Has (b0e Tryd.prog) "math/bits.TrailingZeros64" x_math_bits_TrailingZeros64 := b0k 53 [] [] Tryd.func53 (by kernel_rfl) (by kernel_rfl)
theorem d0x : b96 (b0e Tryd.prog) := c1q d4k
theorem d4j : Has (b0e Tryd.prog) "math/bits.TrailingZeros" x_math_bits_TrailingZeros := b0k 45 [] [] Tryd.func45 (by kernel_rfl) (by kernel_rfl)
theorem d0w : b95 (b0e Tryd.prog) := c1p d4j d0x
theorem d4c : Has (b0e Tryd.prog) "newel/faults.members" x_faults_members := b0k 35 [] [] Tryd.func35 (by kernel_rfl) (by kernel_rfl)
theorem c3c : b7n (b0e Tryd.prog) := b5s d4c d0w
theorem d37 : Has (b0e Tryd.prog) "cmp.isNaN[int]" x_cmp_isNaN_int_ := b0k 58 [] [] Tryd.func58 (by kernel_rfl) (by kernel_rfl)
theorem d0h : b9x (b0e Tryd.prog) := b8r d37
theorem d36 : Has (b0e Tryd.prog) "cmp.Compare[int]" x_cmp_Compare_int_ := b0k 51 [] [] Tryd.func51 (by kernel_rfl) (by kernel_rfl)
theorem d0g : b9w (b0e Tryd.prog) := c1k d36 d0h
theorem d4o : Has (b0e Tryd.prog) "slices.Compare[[]int,int]" x_slices_Compare___int_int_ := b0k 44 [] [] Tryd.func44 (by kernel_rfl) (by kernel_rfl)
theorem d04 : b99 (b0e Tryd.prog) := c1s d4o d0g
theorem d4b : Has (b0e Tryd.prog) "newel/faults.fewer" x_faults_fewer := b0k 34 [] [] Tryd.func34 (by kernel_rfl) (by kernel_rfl)
theorem d0l : b90 (b0e Tryd.prog) := c1n d4b d0u c3c d04
theorem d38 : Has (b0e Tryd.prog) "newel/faults.Liars" x_faults_Liars := b0k 10 [] [] Tryd.func10 (by kernel_rfl) (by kernel_rfl)
theorem d0j : b9y (b0e Tryd.prog) := c1l d38 c3d c3b d0l c3c
theorem d4l : Has (b0e Tryd.prog) "newel/newelref10.Allows" x_r10_Allows := b0k 14 [1, 16, 12, 8, 6, 4] [] Tryd.func14 (by kernel_rfl) (by kernel_rfl)
theorem c3e : b7p (b0e Tryd.prog) := b5u d4l
theorem d4g : Has (b0e Tryd.prog) "newel/newellaw10.agree" x_l10_agree := b0k 15 [] [] Tryd.func15 (by kernel_rfl) (by kernel_rfl)
theorem d0q : b92 (b0e Tryd.prog) := b8s d4g c3e
theorem d4f : Has (b0e Tryd.prog) "newel/newellaw10.FaultsTruth" x_l10_FaultsTruth := b0k 4 [] [] Tryd.func4 (by kernel_rfl) (by kernel_rfl)
theorem d0p : c2x (b0e Tryd.prog) := d7k d4f d02 d0r d0k d0j c3e d0q
end Go.Nw.FM
