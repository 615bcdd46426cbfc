/- The contracts of the functions that the law reaches, of the given program. -/
import Derived.Test.YtkoonfmgmgfmdaaDoorP1
import Derived.Test.YtkoonfmgmgfmdaaDoorKTM1
import Derived.Test.YtkoonfmgmgfmdaaDoorNwHas
import Derived.Test.YtkoonfmgmgfmdaaDoorProg
set_option linter.all false
set_option linter.unusedVariables false
set_option linter.unusedSimpArgs false
set_option linter.unusedSectionVars false
namespace Go.Nw.TM
open Go.Proofs Go.Nw.Top
set_option maxRecDepth 100000
theorem d4g : c5h (b0f Tryd.prog) := fun r h => by cases h; exact ⟨j0s, b0p, b0a _⟩
theorem d8n : Has (b0f Tryd.prog) "newel/newellaw11.Far" x_l11_Far := b0s 5 [1, 3] [] Tryd.func5 (by kernel_rfl) (by kernel_rfl)
theorem d34 : c1i (b0f Tryd.prog) := c3t d8n
theorem d8o : Has (b0f Tryd.prog) "newel/newellaw11.FarTimes" x_l11_FarTimes := b0s 6 [1, 3] [] Tryd.func6 (by kernel_rfl) (by kernel_rfl)
theorem d35 : c1j (b0f Tryd.prog) := c3u d8o
theorem d83 : Has (b0f Tryd.prog) "newel/newelref11.within" x_r11_within := b0s 46 [] [] Tryd.func46 (by kernel_rfl) (by kernel_rfl)
theorem c5y : b8t (b0f Tryd.prog) := b2t d83
theorem d8z : Has (b0f Tryd.prog) "newel/newelref11.Check" x_r11_Check := b0s 45 [1, 68, 59, 53, 47, 45, 39, 33, 28, 22, 16, 10, 5] [] Tryd.func45 (by kernel_rfl) (by kernel_rfl)
theorem d4n : c1t (b0f Tryd.prog) := c32 d8z c5y
theorem d81 : Has (b0f Tryd.prog) "newel/newelref11.CheckTimes" x_r11_CheckTimes := b0s 21 [3, 28, 22, 16, 10, 2] [] Tryd.func21 (by kernel_rfl) (by kernel_rfl)
theorem d4p : c1v (b0f Tryd.prog) := c34 d81 d4n c5y
theorem d82 : Has (b0f Tryd.prog) "newel/newelref11.Pace" x_r11_Pace := b0s 22 [2, 13, 7] [] Tryd.func22 (by kernel_rfl) (by kernel_rfl)
theorem d4q : c1w (b0f Tryd.prog) := c35 d82
theorem d80 : Has (b0f Tryd.prog) "newel/newelref11.CheckPlan" x_r11_CheckPlan := b0s 7 [4, 17, 3] [] Tryd.func7 (by kernel_rfl) (by kernel_rfl)
theorem d4o : c1u (b0f Tryd.prog) := c33 d80 d4p d4q
theorem d8d : Has (b0f Tryd.prog) "newel/energy.from0" x_energy_from0 := b0s 53 [] [] Tryd.func53 (by kernel_rfl) (by kernel_rfl)
theorem c16 : b60 (b0f Tryd.prog) := b3e d8d
theorem d75 : Has (b0f Tryd.prog) "newel/energy.Check" x_energy_Check := b0s 52 [1, 66, 61, 55, 49, 47, 42, 38, 33, 28, 23, 17, 11, 6] [] Tryd.func52 (by kernel_rfl) (by kernel_rfl)
theorem c5t : b8o (b0f Tryd.prog) := b7s d75 c16
theorem d88 : Has (b0f Tryd.prog) "slices.Index[[]int,int]" x_slices_Index___int_int_ := b0s 76 [] [] Tryd.func76 (by kernel_rfl) (by kernel_rfl)
theorem d4u : c11 (b0f Tryd.prog) := c39 d88
theorem d86 : Has (b0f Tryd.prog) "slices.Contains[[]int,int]" x_slices_Contains___int_int_ := b0s 50 [] [] Tryd.func50 (by kernel_rfl) (by kernel_rfl)
theorem c5z : b8u (b0f Tryd.prog) := b7w d86 d4u
theorem d78 : Has (b0f Tryd.prog) "newel/energy.check" x_energy_check := b0s 27 [3, 15] [] Tryd.func27 (by kernel_rfl) (by kernel_rfl)
theorem d3r : c08 (b0f Tryd.prog) := c3k d78 c5t c5z c16
theorem d8e : Has (b0f Tryd.prog) "newel/energy.load" x_energy_load := b0s 54 [3, 16, 8] [] Tryd.func54 (by kernel_rfl) (by kernel_rfl)
theorem d3w : c1d (b0f Tryd.prog) := c3p d8e
theorem d8f : Has (b0f Tryd.prog) "newel/energy.power" x_energy_power := b0s 28 [3, 42, 39, 34, 24, 19, 16, 9] [] Tryd.func28 (by kernel_rfl) (by kernel_rfl)
theorem c5u : b8p (b0f Tryd.prog) := b7t d8f d3w
theorem d77 : Has (b0f Tryd.prog) "newel/energy.Power" x_energy_Power := b0s 9 [3] [] Tryd.func9 (by kernel_rfl) (by kernel_rfl)
theorem d3q : c07 (b0f Tryd.prog) := c3j d77 d3r c5u
theorem d8y : Has (b0f Tryd.prog) "newel/newelref10.from" x_r10_from := b0s 38 [] [] Tryd.func38 (by kernel_rfl) (by kernel_rfl)
theorem d4m : c1s (b0f Tryd.prog) := b6i d8y
theorem d8x : Has (b0f Tryd.prog) "newel/newelref10.Check" x_r10_Check := b0s 18 [] [] Tryd.func18 (by kernel_rfl) (by kernel_rfl)
theorem d4l : c1r (b0f Tryd.prog) := c31 d8x d4m
theorem d8w : Has (b0f Tryd.prog) "newel/newelref10.Allows" x_r10_Allows := b0s 29 [1, 16, 12, 8, 6, 4] [] Tryd.func29 (by kernel_rfl) (by kernel_rfl)
theorem d4k : c1q (b0f Tryd.prog) := c30 d8w
theorem d8u : Has (b0f Tryd.prog) "newel/neweltop.allow" x_neweltop_allow := b0s 10 [] [] Tryd.func10 (by kernel_rfl) (by kernel_rfl)
theorem d4f : c1o (b0f Tryd.prog) := c3y d8u d4l d4k
theorem d8m : Has (b0f Tryd.prog) "newel/faults.within" x_faults_within := b0s 55 [] [] Tryd.func55 (by kernel_rfl) (by kernel_rfl)
theorem d31 : c1h (b0f Tryd.prog) := b6h d8m
theorem d8l : Has (b0f Tryd.prog) "newel/faults.readings" x_faults_readings := b0s 30 [] [] Tryd.func30 (by kernel_rfl) (by kernel_rfl)
theorem c5x : b8s (b0f Tryd.prog) := b7v d8l d31
theorem d8i : Has (b0f Tryd.prog) "newel/faults.common" x_faults_common := b0s 31 [] [(18, 6), (1000009, 6), (1000009, 48), (1000009, 50)] Tryd.func31 (by kernel_rfl) (by kernel_rfl)
theorem c5v : b8q (b0f Tryd.prog) := b7u d8i
theorem d8h : Has (b0f Tryd.prog) "newel/faults.Truth" x_faults_Truth := b0s 11 [] [] Tryd.func11 (by kernel_rfl) (by kernel_rfl)
theorem d3z : c1f (b0f Tryd.prog) := c3r d8h c5x c5v
theorem d8q : Has (b0f Tryd.prog) "math/bits.OnesCount64" x_math_bits_OnesCount64 := b0s 79 [] [] Tryd.func79 (by kernel_rfl) (by kernel_rfl)
theorem d39 : c1l (b0f Tryd.prog) := c3v d8q
theorem d8p : Has (b0f Tryd.prog) "math/bits.OnesCount" x_math_bits_OnesCount := b0s 56 [] [] Tryd.func56 (by kernel_rfl) (by kernel_rfl)
theorem d38 : c1k (b0f Tryd.prog) := b95 d8p d39
theorem d8s : Has (b0f Tryd.prog) "math/bits.TrailingZeros64" x_math_bits_TrailingZeros64 := b0s 82 [] [] Tryd.func82 (by kernel_rfl) (by kernel_rfl)
theorem d4b : c1n (b0f Tryd.prog) := c3x d8s
theorem d8r : Has (b0f Tryd.prog) "math/bits.TrailingZeros" x_math_bits_TrailingZeros := b0s 58 [] [] Tryd.func58 (by kernel_rfl) (by kernel_rfl)
theorem d4a : c1m (b0f Tryd.prog) := c3w d8r d4b
theorem d8k : Has (b0f Tryd.prog) "newel/faults.members" x_faults_members := b0s 33 [] [] Tryd.func33 (by kernel_rfl) (by kernel_rfl)
theorem c5w : b8r (b0f Tryd.prog) := b6g d8k d4a
theorem d74 : Has (b0f Tryd.prog) "cmp.isNaN[int]" x_cmp_isNaN_int_ := b0s 95 [] [] Tryd.func95 (by kernel_rfl) (by kernel_rfl)
theorem d3o : c05 (b0f Tryd.prog) := b94 d74
theorem d73 : Has (b0f Tryd.prog) "cmp.Compare[int]" x_cmp_Compare_int_ := b0s 80 [] [] Tryd.func80 (by kernel_rfl) (by kernel_rfl)
theorem d3n : c04 (b0f Tryd.prog) := c3h d73 d3o
theorem d84 : Has (b0f Tryd.prog) "slices.Compare[[]int,int]" x_slices_Compare___int_int_ := b0s 57 [] [] Tryd.func57 (by kernel_rfl) (by kernel_rfl)
theorem d4r : c1x (b0f Tryd.prog) := c36 d84 d3n
theorem d8j : Has (b0f Tryd.prog) "newel/faults.fewer" x_faults_fewer := b0s 32 [] [] Tryd.func32 (by kernel_rfl) (by kernel_rfl)
theorem d30 : c1g (b0f Tryd.prog) := c3s d8j d38 c5w d4r
theorem d8g : Has (b0f Tryd.prog) "newel/faults.Liars" x_faults_Liars := b0s 12 [] [] Tryd.func12 (by kernel_rfl) (by kernel_rfl)
theorem d3y : c1e (b0f Tryd.prog) := c3q d8g c5x c5v d30 c5w
theorem d8b : Has (b0f Tryd.prog) "newel/energy.checkTimes" x_energy_checkTimes := b0s 59 [3, 29, 24, 18, 13, 2] [] Tryd.func59 (by kernel_rfl) (by kernel_rfl)
theorem d3u : c1b (b0f Tryd.prog) := c3n d8b c5t c16
theorem d87 : Has (b0f Tryd.prog) "slices.IndexFunc[[]int,int]" x_slices_IndexFunc___int_int_ := b0s 83 [] [] Tryd.func83 (by kernel_rfl) (by kernel_rfl)
theorem d4t : c1z (b0f Tryd.prog) := c38 d87
theorem d85 : Has (b0f Tryd.prog) "slices.ContainsFunc[[]int,int]" x_slices_ContainsFunc___int_int_ := b0s 60 [] [] Tryd.func60 (by kernel_rfl) (by kernel_rfl)
theorem d4s : c1y (b0f Tryd.prog) := c37 d85 d4t
theorem d8a : Has (b0f Tryd.prog) "newel/energy.checkPlan$1" x_energy_checkPlanD1 := b0s 61 [] [] Tryd.func61 (by kernel_rfl) (by kernel_rfl)
theorem d3t : c1a (b0f Tryd.prog) := c3m d8a c5z
theorem d79 : Has (b0f Tryd.prog) "newel/energy.checkPlan" x_energy_checkPlan := b0s 34 [4, 16, 3] [] Tryd.func34 (by kernel_rfl) (by kernel_rfl)
theorem d3s : c09 (b0f Tryd.prog) := c3l d79 d3u d4s d3t
theorem d8c : Has (b0f Tryd.prog) "newel/energy.flows" x_energy_flows := b0s 35 [7, 34, 28, 5, 25, 16, 15, 12, 11, 4] [] Tryd.func35 (by kernel_rfl) (by kernel_rfl)
theorem d3v : c1c (b0f Tryd.prog) := c3o d8c c5u
theorem d76 : Has (b0f Tryd.prog) "newel/energy.Flows" x_energy_Flows := b0s 13 [9, 31, 29, 6, 36, 5] [] Tryd.func13 (by kernel_rfl) (by kernel_rfl)
theorem d3p : c06 (b0f Tryd.prog) := c3i d76 d3s d3v
theorem d8v : Has (b0f Tryd.prog) "newel/neweltop.names" x_neweltop_names := b0s 14 [] [] Tryd.func14 (by kernel_rfl) (by kernel_rfl)
theorem d4h : c1p (b0f Tryd.prog) := c3z d8v
theorem d8t : Has (b0f Tryd.prog) "newel/neweltop.TopMetered" x_neweltop_TopMetered := b0s 3 [7, 148, 138, 106, 100, 93, 87, 75, 72, 61, 57, 48, 44, 37, 32, 5, 85, 59, 46, 4] [] Tryd.func3 (by kernel_rfl) (by kernel_rfl)
theorem d4e : c5g (b0f Tryd.prog) := g15 d8t d34 d35 d4o d4g d3q d4f d3z d3y d3p d4h
end Go.Nw.TM
