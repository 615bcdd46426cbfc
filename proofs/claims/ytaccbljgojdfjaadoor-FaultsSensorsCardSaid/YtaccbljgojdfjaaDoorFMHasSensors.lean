/- The contracts of the functions that the law reaches, of the given program. -/
import Derived.Test.YtaccbljgojdfjaaDoorP1
import Derived.Test.YtaccbljgojdfjaaDoorKFM1
import Derived.Test.YtaccbljgojdfjaaDoorNwHas
import Derived.Test.YtaccbljgojdfjaaDoorProg
set_option linter.all false
set_option linter.unusedVariables false
set_option linter.unusedSimpArgs false
set_option linter.unusedSectionVars false
namespace Go.Nw.FM
open Go.Proofs Go.Nw.Fault
set_option maxRecDepth 100000
theorem d05 : c3a (b0e Tryd.prog) := fun r h => by cases h; exact ⟨g6h, b0p, b0d _⟩
theorem d4q : Has (b0e Tryd.prog) "newel/faults.within" x_faults_within := b0j 42 [] [] Tryd.func42 (by kernel_rfl) (by kernel_rfl)
theorem d00 : b96 (b0e Tryd.prog) := b5z d4q
theorem d4p : Has (b0e Tryd.prog) "newel/faults.readings" x_faults_readings := b0j 31 [] [] Tryd.func31 (by kernel_rfl) (by kernel_rfl)
theorem c3o : b7u (b0e Tryd.prog) := b60 d4p d00
theorem d4m : Has (b0e Tryd.prog) "newel/faults.common" x_faults_common := b0j 32 [] [(18, 6), (1000009, 6), (1000009, 48), (1000009, 50)] Tryd.func32 (by kernel_rfl) (by kernel_rfl)
theorem c3m : b7s (b0e Tryd.prog) := b6z d4m
theorem d4l : Has (b0e Tryd.prog) "newel/faults.Truth" x_faults_Truth := b0j 8 [] [] Tryd.func8 (by kernel_rfl) (by kernel_rfl)
theorem d0y : b94 (b0e Tryd.prog) := c1w d4l c3o c3m
theorem d44 : Has (b0e Tryd.prog) "newel/newelref10.from" x_r10_from := b0j 37 [] [] Tryd.func37 (by kernel_rfl) (by kernel_rfl)
theorem d1l : c0h (b0e Tryd.prog) := b50 d44
theorem d4y : Has (b0e Tryd.prog) "newel/newelref10.Check" x_r10_Check := b0j 13 [] [] Tryd.func13 (by kernel_rfl) (by kernel_rfl)
theorem c3p : b7v (b0e Tryd.prog) := b61 d4y d1l
theorem d4x : Has (b0e Tryd.prog) "newel/newelref10.Allows" x_r10_Allows := b0j 14 [1, 16, 12, 8, 6, 4] [] Tryd.func14 (by kernel_rfl) (by kernel_rfl)
theorem d1g : c0c (b0e Tryd.prog) := c12 d4x
theorem d43 : Has (b0e Tryd.prog) "newel/newelref10.common" x_r10_common := b0j 33 [] [(18, 6), (1000009, 6), (1000009, 40), (1000009, 42)] Tryd.func33 (by kernel_rfl) (by kernel_rfl)
theorem c3q : b7w (b0e Tryd.prog) := b62 d43 d1g
theorem d41 : Has (b0e Tryd.prog) "newel/newelref10.Truth" x_r10_Truth := b0j 9 [] [] Tryd.func9 (by kernel_rfl) (by kernel_rfl)
theorem d1j : c0f (b0e Tryd.prog) := c15 d41 c3p c3q
theorem d4u : Has (b0e Tryd.prog) "math/bits.OnesCount64" x_math_bits_OnesCount64 := b0j 50 [] [] Tryd.func50 (by kernel_rfl) (by kernel_rfl)
theorem d09 : b99 (b0e Tryd.prog) := c1z d4u
theorem d4t : Has (b0e Tryd.prog) "math/bits.OnesCount" x_math_bits_OnesCount := b0j 43 [] [] Tryd.func43 (by kernel_rfl) (by kernel_rfl)
theorem d08 : b98 (b0e Tryd.prog) := b80 d4t d09
theorem d4w : Has (b0e Tryd.prog) "math/bits.TrailingZeros64" x_math_bits_TrailingZeros64 := b0j 53 [] [] Tryd.func53 (by kernel_rfl) (by kernel_rfl)
theorem d1b : c0b (b0e Tryd.prog) := c11 d4w
theorem d4v : Has (b0e Tryd.prog) "math/bits.TrailingZeros" x_math_bits_TrailingZeros := b0j 45 [] [] Tryd.func45 (by kernel_rfl) (by kernel_rfl)
theorem d1a : c0a (b0e Tryd.prog) := c10 d4v d1b
theorem d4o : Has (b0e Tryd.prog) "newel/faults.members" x_faults_members := b0j 35 [] [] Tryd.func35 (by kernel_rfl) (by kernel_rfl)
theorem c3n : b7t (b0e Tryd.prog) := b5y d4o d1a
theorem d4j : Has (b0e Tryd.prog) "cmp.isNaN[int]" x_cmp_isNaN_int_ := b0j 58 [] [] Tryd.func58 (by kernel_rfl) (by kernel_rfl)
theorem d0v : b92 (b0e Tryd.prog) := b8z d4j
theorem d4i : Has (b0e Tryd.prog) "cmp.Compare[int]" x_cmp_Compare_int_ := b0j 51 [] [] Tryd.func51 (by kernel_rfl) (by kernel_rfl)
theorem d0u : b91 (b0e Tryd.prog) := c1u d4i d0v
theorem d45 : Has (b0e Tryd.prog) "slices.Compare[[]int,int]" x_slices_Compare___int_int_ := b0j 44 [] [] Tryd.func44 (by kernel_rfl) (by kernel_rfl)
theorem d1m : c0i (b0e Tryd.prog) := c17 d45 d0u
theorem d4n : Has (b0e Tryd.prog) "newel/faults.fewer" x_faults_fewer := b0j 34 [] [] Tryd.func34 (by kernel_rfl) (by kernel_rfl)
theorem d0z : b95 (b0e Tryd.prog) := c1x d4n d08 c3n d1m
theorem d4k : Has (b0e Tryd.prog) "newel/faults.Liars" x_faults_Liars := b0j 10 [] [] Tryd.func10 (by kernel_rfl) (by kernel_rfl)
theorem d0x : b93 (b0e Tryd.prog) := c1v d4k c3o c3m d0z c3n
theorem d42 : Has (b0e Tryd.prog) "newel/newelref10.bits" x_r10_bits := b0j 36 [] [] Tryd.func36 (by kernel_rfl) (by kernel_rfl)
theorem d1k : c0g (b0e Tryd.prog) := c16 d42
theorem d4z : Has (b0e Tryd.prog) "newel/newelref10.Less" x_r10_Less := b0j 22 [] [] Tryd.func22 (by kernel_rfl) (by kernel_rfl)
theorem d1h : c0d (b0e Tryd.prog) := c13 d4z
theorem d40 : Has (b0e Tryd.prog) "newel/newelref10.Liars" x_r10_Liars := b0j 11 [] [] Tryd.func11 (by kernel_rfl) (by kernel_rfl)
theorem d1i : c0e (b0e Tryd.prog) := c14 d40 c3p c3q d1k d1h
theorem d4s : Has (b0e Tryd.prog) "newel/newellaw10.sameInts" x_l10_sameInts := b0j 12 [] [] Tryd.func12 (by kernel_rfl) (by kernel_rfl)
theorem d04 : b97 (b0e Tryd.prog) := c1y d4s
theorem d4r : Has (b0e Tryd.prog) "newel/newellaw10.FaultsSensors" x_l10_FaultsSensors := b0j 3 [] [(8, 3)] Tryd.func3 (by kernel_rfl) (by kernel_rfl)
theorem d03 : c29 (b0e Tryd.prog) := d71 d4r d05 d0y d1j d0x d1i d04
end Go.Nw.FM
