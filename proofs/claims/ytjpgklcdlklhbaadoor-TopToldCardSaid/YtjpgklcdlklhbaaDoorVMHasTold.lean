/- The contracts of the functions that the law reaches, of the given program. -/
import Derived.Test.YtjpgklcdlklhbaaDoorP1
import Derived.Test.YtjpgklcdlklhbaaDoorP3
import Derived.Test.YtjpgklcdlklhbaaDoorKVM1
import Derived.Test.YtjpgklcdlklhbaaDoorNwHas
import Derived.Test.YtjpgklcdlklhbaaDoorProg
set_option linter.all false
namespace Go.Nw.VM
open Go.Proofs Go.Nw.Tp4
set_option maxRecDepth 100000
theorem x9k : x87 (b0n Tryd.prog) := fun r h => by cases h; exact ⟨l7k, b0j, b0e _⟩
abbrev OP : Orac := b0n Tryd.prog
theorem ha {n : String} {x : XFunc} (k : Nat) {f0 : Func} (bf : List Nat) (fz : List (Nat × Nat)) (hk : Tryd.prog.funcs[k]? = some f0) (hu : ((b2k n).isNone && Tryd.prog.funcs.toList.zipIdx.all fun p => p.1.name != n || p.2 == k) = true := by kernel_rfl) (hc : c6p Tryd.prog bf fz f0 = some x := by kernel_rfl) : Has OP n x := b00 k bf fz hk hu hc
theorem B25 : Has OP "newel/newelref03.within" x_r03_within := ha 14 [] [] Tryd.func14
theorem z7v : x79 OP := b44 B25
theorem B22 : Has OP "newel/newelref03.Check" x_r03_Check := ha 12 [1, 106, 76, 58, 52, 47, 40, 35, 29, 22, 15, 10] [] Tryd.func12
theorem B1o : z7n OP := z8r B22 z7v
theorem B24 : Has OP "newel/newelref03.Hazards" x_r03_Hazards := ha 13 [2, 6] [] Tryd.func13
theorem B1q : z7p OP := z8t B24 z7v
theorem B23 : Has OP "newel/newelref03.CheckTrials" x_r03_CheckTrials := ha 5 [2, 32] [] Tryd.func5
theorem B1p : z7o OP := z8s B23 B1o B1q z7v
theorem B28 : Has OP "slices.Index[[]bool,bool]" x_slices_Index___bool_bool_ := ha 73 [] [] Tryd.func73
theorem B1t : z7s OP := z8w B28
theorem B27 : Has OP "slices.Contains[[]bool,bool]" x_slices_Contains___bool_bool_ := ha 54 [] [] Tryd.func54
theorem B1s : z7r OP := z8v B27 B1t
theorem j3p : Has OP "slices.IndexFunc[[]int,int]" x_slices_IndexFunc___int_int_ := ha 74 [] [] Tryd.func74
theorem g8p : d0x OP := d3u j3p
theorem j3m : Has OP "slices.ContainsFunc[[]int,int]" x_slices_ContainsFunc___int_int_ := ha 55 [] [] Tryd.func55
theorem g8n : d0v OP := d3s j3m g8p
theorem B2j : Has OP "newel/circuit.isSet" x_circuit_isSet := ha 35 [] [] Tryd.func35
theorem z9j : z5t OP := z5c B2j
theorem B2d : Has OP "newel/circuit.Check$1" x_circuit_CheckD1 := ha 56 [] [] Tryd.func56
theorem B02 : z63 OP := z79 B2d z9j
theorem B2g : Has OP "newel/circuit.ascending" x_circuit_ascending := ha 57 [] [] Tryd.func57
theorem B05 : z66 OP := z59 B2g
theorem B2e : Has OP "newel/circuit.Check$2" x_circuit_CheckD2 := ha 58 [] [] Tryd.func58
theorem B03 : z64 OP := z8a B2e
theorem B2c : Has OP "newel/circuit.Check" x_circuit_Check := ha 34 [1, 93, 69, 50, 46, 41, 32, 27, 22, 17, 13, 9] [(46, 4)] Tryd.func34
theorem B01 : z62 OP := z78 B2c B1s g8n B02 B05 B03
theorem B2h : Has OP "newel/circuit.check" x_circuit_check := ha 19 [2, 36, 24] [] Tryd.func19
theorem B06 : z67 OP := z8c B2h B01 z9j
theorem B19 : Has OP "(newel/circuit.state).conducts" x__circuit_state__conducts := ha 71 [2, 25, 20, 19, 12, 5] [] Tryd.func71
theorem B0x : z6y OP := z75 B19
theorem B2a : Has OP "(newel/circuit.state).wire$1" x__circuit_state__wireD1 := ha 72 [] [] Tryd.func72
theorem B0z : z60 OP := z76 B2a
theorem B2b : Has OP "(newel/circuit.state).wire" x__circuit_state__wire := ha 53 [2, 7, 6] [] Tryd.func53
theorem B00 : z61 OP := z77 B2b B0x g8n B0z
theorem B0y : z6z OP := z58 B00
theorem B2l : Has OP "newel/circuit.shows" x_circuit_shows := ha 37 [4, 24, 19, 15, 10, 3] [] Tryd.func37
theorem B09 : z7a OP := z8f B2l B0y
theorem B2k : Has OP "newel/circuit.shown" x_circuit_shown := ha 21 [3, 2, 6] [] Tryd.func21
theorem B08 : z69 OP := z8e B2k B09
theorem B20 : Has OP "math/bits.TrailingZeros64" x_math_bits_TrailingZeros64 := ha 60 [] [] Tryd.func60
theorem B1m : z7m OP := z8q B20
theorem B2z : Has OP "math/bits.TrailingZeros" x_math_bits_TrailingZeros := ha 36 [] [] Tryd.func36
theorem z9l : z5w OP := z5d B2z B1m
theorem B2i : Has OP "newel/circuit.elements" x_circuit_elements := ha 20 [] [] Tryd.func20
theorem B07 : z68 OP := z8d B2i z9l
theorem B2f : Has OP "newel/circuit.Shows" x_circuit_Shows := ha 7 [3] [] Tryd.func7
theorem B04 : z65 OP := z8b B2f B06 B08 B07
theorem u71 : Has OP "newel/faults.within" x_faults_within := ha 38 [] [] Tryd.func38
theorem u4u : u1j OP := s84 u71
theorem B2u : Has OP "newel/faults.plant" x_faults_plant := ha 22 [2, 46, 36, 20, 15, 10] [] Tryd.func22
theorem B1h : z7i OP := z8m B2u u4u
theorem B2q : Has OP "newel/faults.explained$1" x_faults_explainedD1 := ha 61 [] [] Tryd.func61
theorem B1e : z7f OP := z8j B2q
theorem B2p : Has OP "newel/faults.explained" x_faults_explained := ha 39 [5, 3, 30, 12] [] Tryd.func39
theorem B1d : z7e OP := z8i B2p g8n B1e
theorem B2y : Has OP "math/bits.OnesCount64" x_math_bits_OnesCount64 := ha 63 [] [] Tryd.func63
theorem B1l : z7l OP := z8p B2y
theorem B2x : Has OP "math/bits.OnesCount" x_math_bits_OnesCount := ha 40 [] [] Tryd.func40
theorem B1k : z7k OP := x23 B2x B1l
theorem B2t : Has OP "newel/faults.members" x_faults_members := ha 24 [] [] Tryd.func24
theorem z9k : z5u OP := x22 B2t z9l
theorem B2n : Has OP "cmp.isNaN[int]" x_cmp_isNaN_int_ := ha 85 [] [] Tryd.func85
theorem B1b : z7c OP := z6a B2n
theorem B2m : Has OP "cmp.Compare[int]" x_cmp_Compare_int_ := ha 66 [] [] Tryd.func66
theorem B1a : z7b OP := z8g B2m B1b
theorem B26 : Has OP "slices.Compare[[]int,int]" x_slices_Compare___int_int_ := ha 43 [] [] Tryd.func43
theorem B1r : z7q OP := z8u B26 B1a
theorem B2s : Has OP "newel/faults.fewest$1" x_faults_fewestD1 := ha 42 [] [] Tryd.func42
theorem B1g : z7h OP := z8l B2s z9k B1r
theorem B3a : Has OP "slices.insertionSortCmpFunc[int]" x_slices_insertionSortCmpFunc_int_ := ha 75 [] [] Tryd.func75
theorem B1v : x80 OP := z8y B3a
theorem B2w : Has OP "math/bits.Len64" x_math_bits_Len64 := ha 84 [] [] Tryd.func84
theorem B1j : z7j OP := z8o B2w
theorem B2v : Has OP "math/bits.Len" x_math_bits_Len := ha 65 [] [] Tryd.func65
theorem B1i : z5v OP := z8n B2v B1j
theorem B29 : Has OP "slices.SortFunc[[]int,int]" x_slices_SortFunc___int_int_ := ha 41 [] [] Tryd.func41
theorem B3b : Has OP "slices.pdqsortCmpFunc[int]" x_slices_pdqsortCmpFunc_int_ := ha 64 [] [] Tryd.func64
theorem B1u : z5x OP := z8x B29 B3b B1v B1i
theorem B2r : Has OP "newel/faults.fewest" x_faults_fewest := ha 23 [2, 8] [] Tryd.func23
theorem B1f : z7g OP := z8k B2r B1d B1k B1g B1u
theorem B2o : Has OP "newel/faults.All" x_faults_All := ha 8 [2] [] Tryd.func8
theorem B1c : z7d OP := z8h B2o B1h B1f z9k
theorem B21 : Has OP "newel/neweltop.TopTold" x_neweltop_TopTold := ha 3 [3, 52, 41, 35, 19] [(40, 7), (40, 8)] Tryd.func3
theorem B1n : z9c OP := B3m B21 B1p x9k B04 B1c
end Go.Nw.VM
