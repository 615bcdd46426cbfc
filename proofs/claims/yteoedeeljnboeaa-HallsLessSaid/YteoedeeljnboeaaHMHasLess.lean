/- The contracts of the functions that the law reaches, of the given program. -/
import Derived.Test.YteoedeeljnboeaaP1
import Derived.Test.YteoedeeljnboeaaKHM1
import Derived.Test.YteoedeeljnboeaaKHM2
import Derived.Test.YteoedeeljnboeaaNwHas
import Derived.Test.YteoedeeljnboeaaProg
set_option linter.all false
namespace Go.Nw.HM
open Go.Proofs Go.Nw.Halls
set_option maxRecDepth 100000
instance cfg : Cfg := ⟨fun _ => none, fun _ => false⟩
abbrev OP : Orac := b0n Try.prog
theorem ha {n : String} {x : XFunc} (k : Nat) {f0 : Func} (bf : List Nat) (fz : List (Nat × Nat)) (hk : Try.prog.funcs[k]? = some f0) (hu : ((b2k n).isNone && Try.prog.funcs.toList.zipIdx.all fun p => p.1.name != n || p.2 == k) = true := by kernel_rfl) (hc : c6p Try.prog bf fz f0 = some x := by kernel_rfl) : Has OP n x := b00 k bf fz hk hu hc
theorem G93 : Has OP "newel/newellaw06.Far" x_l06_Far := ha 13 [1, 37, 31, 25, 21, 15, 9, 4] [] Try.func13
theorem G8t : G13 OP := G3y G93
theorem G99 : Has OP "newel/newelref06.within" x_r06_within := ha 45 [] [] Try.func45
theorem G8z : G17 OP := E7c G99
theorem G98 : Has OP "newel/newelref06.spanned" x_r06_spanned := ha 46 [3, 19, 14, 12, 7] [] Try.func46
theorem G8y : G16 OP := E9f G98
theorem G97 : Has OP "newel/newelref06.Check" x_r06_Check := ha 14 [1, 178, 153, 146, 140, 93, 86, 80, 43, 35, 30, 24, 17, 12] [] Try.func14
theorem G8x : G15 OP := G30 G97 G8z G8y
theorem G92 : Has OP "newel/newellaw06.Example" x_l06_Example := ha 47 [] [] Try.func47
theorem G8s : G12 OP := G1b G92
theorem G9u : Has OP "newel/halls.in" x_halls_in := ha 66 [3, 11, 5] [] Try.func66
theorem G4z : G0m OP := E8n G9u
theorem G91 : Has OP "newel/halls.span" x_halls_span := ha 76 [3, 19, 14, 12, 8] [] Try.func76
theorem G41 : G0o OP := E8p G91
theorem G9v : Has OP "newel/halls.isComb" x_halls_isComb := ha 62 [2, 33, 6] [] Try.func62
theorem G8o : G1y OP := G3u G9v G4z G41
theorem H0b : Has OP "slices.IndexFunc[[]newel/api.Train,newel/api.Train]" x_slices_IndexFunc___api_Train_api_Train_ := ha 77 [] [] Try.func77
theorem G81 : G19 OP := G32 H0b
theorem H0a : Has OP "slices.ContainsFunc[[]newel/api.Train,newel/api.Train]" x_slices_ContainsFunc___api_Train_api_Train_ := ha 63 [] [] Try.func63
theorem G80 : G18 OP := G31 H0a G81
theorem G9w : Has OP "newel/halls.isTrain" x_halls_isTrain := ha 65 [3, 43, 36, 8, 2, 38, 22] [] Try.func65
theorem G8p : G1z OP := G3v G9w G41
theorem G9m : Has OP "newel/halls.Check$1" x_halls_CheckD1 := ha 64 [2] [] Try.func64
theorem G8i : G1s OP := G3p G9m G8p
theorem G9l : Has OP "newel/halls.Check" x_halls_Check := ha 41 [1, 95, 77, 67, 53, 49, 38, 33, 27, 21, 15, 10, 6] [] Try.func41
theorem G4x : G0k OP := E97 G9l G8o G80 G8i G4z
theorem j3p : Has OP "slices.IndexFunc[[]int,int]" x_slices_IndexFunc___int_int_ := ha 69 [] [] Try.func69
theorem g8p : d0x OP := d3u j3p
theorem j3m : Has OP "slices.ContainsFunc[[]int,int]" x_slices_ContainsFunc___int_int_ := ha 67 [] [] Try.func67
theorem g8n : d0v OP := d3s j3m g8p
theorem G9t : Has OP "newel/halls.check$1" x_halls_checkD1 := ha 68 [] [] Try.func68
theorem G8n : G1x OP := G3t G9t
theorem G9s : Has OP "newel/halls.check" x_halls_check := ha 48 [3, 17] [] Try.func48
theorem G4y : G0l OP := E98 G9s G4x g8n G8n
theorem G90 : Has OP "newel/halls.rates" x_halls_rates := ha 59 [2, 48, 40, 29, 24, 12, 9] [] Try.func59
theorem G8r : G11 OP := G3x G90
theorem G9x : Has OP "newel/halls.open" x_halls_open := ha 49 [1, 4] [(9, 0)] Try.func49
theorem G2e : E9q OP := E8o G9x G8r
theorem G9r : Has OP "newel/halls.brought" x_halls_brought := ha 71 [4, 13] [] Try.func71
theorem G8m : G1w OP := G3s G9r
theorem G9k : Has OP "(*newel/halls.bound).passes" x___halls_bound__passes := ha 72 [] [] Try.func72
theorem G8h : G1r OP := G3o G9k
theorem G9q : Has OP "newel/halls.bounds" x_halls_bounds := ha 51 [2, 120, 49, 36, 31, 26, 16] [(74, 5), (40, 9), (70, 7)] Try.func51
theorem G2d : E9p OP := E8m G9q G8m G8h
theorem G9z : Has OP "newel/halls.over$1" x_halls_overD1 := ha 70 [] [] Try.func70
theorem G8q : G10 OP := G3w G9z
theorem G9y : Has OP "newel/halls.over" x_halls_over := ha 50 [2] [] Try.func50
theorem G40 : G0n OP := E99 G9y g8p G8q
theorem G9n : Has OP "newel/halls.Guard" x_halls_Guard := ha 16 [3, 34] [(1000004, 2000049), (1000007, 2000051)] Try.func16
theorem G8j : G1t OP := G3q G9n G4y G2e G2d G40
theorem G9p : Has OP "newel/halls.Over" x_halls_Over := ha 18 [1] [(1000004, 2000049), (1000004, 2000051)] Try.func18
theorem G8l : G1v OP := G3r G9p G4x G2e G2d G40
theorem G96 : Has OP "newel/newellaw06.works" x_l06_works := ha 15 [] [] Try.func15
theorem G8w : G14 OP := G1c G96 G8s G8j G8l
theorem G95 : Has OP "newel/newellaw06.copied" x_l06_copied := ha 19 [1, 33, 26, 18, 12, 7] [(17, 0)] Try.func19
theorem G8v : G0p OP := G3z G95
theorem G9o : Has OP "newel/halls.Most" x_halls_Most := ha 20 [2] [(1000004, 2000049), (1000004, 2000051)] Try.func20
theorem G8k : G1u OP := G1a G9o G4y G2e G2d
theorem G94 : Has OP "newel/newellaw06.HallsLess" x_l06_HallsLess := ha 4 [4, 131, 129, 119, 115, 114, 109, 108, 106, 105, 100, 99, 91, 87, 83, 81, 72, 71, 66, 65, 63, 62, 55, 54, 50, 27, 22, 3, 163, 156, 40, 29] [(19, 7)] Try.func4
theorem G8u : G4m OP := H0h G94 G8t G8x G8w G8v G8k
end Go.Nw.HM
