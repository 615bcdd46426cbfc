/- The contracts of the functions that the law reaches, of the given program. -/
import Derived.Test.YtbmfnjehcnbpbaaDoorP1
import Derived.Test.YtbmfnjehcnbpbaaDoorP3
import Derived.Test.YtbmfnjehcnbpbaaDoorKWN1
import Derived.Test.YtbmfnjehcnbpbaaDoorKWN2
import Derived.Test.YtbmfnjehcnbpbaaDoorNwHas
import Derived.Test.YtbmfnjehcnbpbaaDoorProg
set_option linter.all false
namespace Go.Nw.WN
open Go.Proofs Go.Nw.Ft3
set_option maxRecDepth 100000
theorem u66 : u4h (b0n Tryd.prog) := fun r h => by cases h; exact ⟨l7k, b0j, b0e _⟩
abbrev OP : Orac := b0n Tryd.prog
theorem ha {n : String} {x : XFunc} (k : Nat) {f0 : Func} (bf : List Nat) (fz : List (Nat × Nat)) (hk : Tryd.prog.funcs[k]? = some f0) (hu : ((b2k n).isNone && Tryd.prog.funcs.toList.zipIdx.all fun p => p.1.name != n || p.2 == k) = true := by kernel_rfl) (hc : c6p Tryd.prog bf fz f0 = some x := by kernel_rfl) : Has OP n x := b00 k bf fz hk hu hc
theorem E2p : Has OP "newel/newelref10.CopyPlant" x_r10_CopyPlant := ha 15 [1, 18, 9, 5] [(11, 0)] Tryd.func15
theorem E16 : E0n OP := E0w E2p
theorem u71 : Has OP "newel/faults.within" x_faults_within := ha 33 [] [] Tryd.func33
theorem u4u : u1j OP := s84 u71
theorem B2u : Has OP "newel/faults.plant" x_faults_plant := ha 24 [2, 46, 36, 20, 15, 10] [] Tryd.func24
theorem B1h : z7i OP := z8m B2u u4u
theorem j3p : Has OP "slices.IndexFunc[[]int,int]" x_slices_IndexFunc___int_int_ := ha 49 [] [] Tryd.func49
theorem g8p : d0x OP := d3u j3p
theorem j3m : Has OP "slices.ContainsFunc[[]int,int]" x_slices_ContainsFunc___int_int_ := ha 40 [] [] Tryd.func40
theorem g8n : d0v OP := d3s j3m g8p
theorem B2q : Has OP "newel/faults.explained$1" x_faults_explainedD1 := ha 41 [] [] Tryd.func41
theorem B1e : z7f OP := z8j B2q
theorem B2p : Has OP "newel/faults.explained" x_faults_explained := ha 34 [5, 3, 30, 12] [] Tryd.func34
theorem B1d : z7e OP := z8i B2p g8n B1e
theorem B2y : Has OP "math/bits.OnesCount64" x_math_bits_OnesCount64 := ha 43 [] [] Tryd.func43
theorem B1l : z7l OP := z8p B2y
theorem B2x : Has OP "math/bits.OnesCount" x_math_bits_OnesCount := ha 35 [] [] Tryd.func35
theorem B1k : z7k OP := C84 B2x B1l
theorem B20 : Has OP "math/bits.TrailingZeros64" x_math_bits_TrailingZeros64 := ha 48 [] [] Tryd.func48
theorem B1m : z7m OP := z8q B20
theorem B2z : Has OP "math/bits.TrailingZeros" x_math_bits_TrailingZeros := ha 39 [] [] Tryd.func39
theorem z9l : z5w OP := z5d B2z B1m
theorem B2t : Has OP "newel/faults.members" x_faults_members := ha 26 [] [] Tryd.func26
theorem z9k : z5u OP := B8u B2t z9l
theorem B2n : Has OP "cmp.isNaN[int]" x_cmp_isNaN_int_ := ha 60 [] [] Tryd.func60
theorem B1b : z7c OP := z6a B2n
theorem B2m : Has OP "cmp.Compare[int]" x_cmp_Compare_int_ := ha 46 [] [] Tryd.func46
theorem B1a : z7b OP := z8g B2m B1b
theorem B26 : Has OP "slices.Compare[[]int,int]" x_slices_Compare___int_int_ := ha 38 [] [] Tryd.func38
theorem B1r : z7q OP := z8u B26 B1a
theorem B2s : Has OP "newel/faults.fewest$1" x_faults_fewestD1 := ha 37 [] [] Tryd.func37
theorem B1g : z7h OP := z8l B2s z9k B1r
theorem B3a : Has OP "slices.insertionSortCmpFunc[int]" x_slices_insertionSortCmpFunc_int_ := ha 50 [] [] Tryd.func50
theorem B1v : D04 OP := z8y B3a
theorem D5n : Has OP "slices.siftDownCmpFunc[int]" x_slices_siftDownCmpFunc_int_ := ha 61 [] [] Tryd.func61
theorem D4v : D2b OP := D1j D5n
theorem D5d : Has OP "slices.heapSortCmpFunc[int]" x_slices_heapSortCmpFunc_int_ := ha 51 [] [] Tryd.func51
theorem D4m : D03 OP := C90 D5d D4v
theorem B2w : Has OP "math/bits.Len64" x_math_bits_Len64 := ha 59 [] [] Tryd.func59
theorem B1j : z7j OP := z8o B2w
theorem B2v : Has OP "math/bits.Len" x_math_bits_Len := ha 45 [] [] Tryd.func45
theorem B1i : z5v OP := z8n B2v B1j
theorem D5g : Has OP "slices.nextPowerOfTwo" x_slices_nextPowerOfTwo := ha 62 [] [] Tryd.func62
theorem D4o : D18 OP := D2l D5g B1i
theorem D43 : Has OP "(*slices.xorshift).Next" x___slices_xorshift__Next := ha 63 [] [] Tryd.func63
theorem D4c : D1z OP := D2h D43
theorem D5b : Has OP "slices.breakPatternsCmpFunc[int]" x_slices_breakPatternsCmpFunc_int_ := ha 52 [] [] Tryd.func52
theorem D4k : D01 OP := C9y D5b D4o D4c
theorem D5h : Has OP "slices.order2CmpFunc[int]" x_slices_order2CmpFunc_int_ := ha 66 [] [] Tryd.func66
theorem D4p : D19 OP := C93 D5h
theorem D5f : Has OP "slices.medianCmpFunc[int]" x_slices_medianCmpFunc_int_ := ha 65 [] [] Tryd.func65
theorem D23 : D05 OP := C92 D5f D4p
theorem D5e : Has OP "slices.medianAdjacentCmpFunc[int]" x_slices_medianAdjacentCmpFunc_int_ := ha 64 [] [] Tryd.func64
theorem D4n : D17 OP := C91 D5e D23
theorem D5c : Has OP "slices.choosePivotCmpFunc[int]" x_slices_choosePivotCmpFunc_int_ := ha 53 [] [] Tryd.func53
theorem D4l : D02 OP := C9z D5c D4n D23
theorem D5m : Has OP "slices.reverseRangeCmpFunc[int]" x_slices_reverseRangeCmpFunc_int_ := ha 54 [] [] Tryd.func54
theorem D4u : D09 OP := C97 D5m
theorem D5i : Has OP "slices.partialInsertionSortCmpFunc[int]" x_slices_partialInsertionSortCmpFunc_int_ := ha 55 [] [] Tryd.func55
theorem D4q : D06 OP := C94 D5i
theorem D5k : Has OP "slices.partitionEqualCmpFunc[int]" x_slices_partitionEqualCmpFunc_int_ := ha 56 [] [] Tryd.func56
theorem D4s : D08 OP := C96 D5k
theorem D5j : Has OP "slices.partitionCmpFunc[int]" x_slices_partitionCmpFunc_int_ := ha 57 [] [] Tryd.func57
theorem D4r : D07 OP := C95 D5j
theorem D5l : Has OP "slices.pdqsortCmpFunc[int]" x_slices_pdqsortCmpFunc_int_ := ha 44 [] [] Tryd.func44
theorem D4t : D2a OP := D2m D5l B1v D4m D4k D4l D4u D4q D4s D4r
theorem B29 : Has OP "slices.SortFunc[[]int,int]" x_slices_SortFunc___int_int_ := ha 36 [] [] Tryd.func36
theorem B1u : z5x OP := z8x B29 D4t B1i
theorem B2r : Has OP "newel/faults.fewest" x_faults_fewest := ha 25 [2, 8] [] Tryd.func25
theorem B1f : z7g OP := z8k B2r B1d B1k B1g B1u
theorem B2o : Has OP "newel/faults.All" x_faults_All := ha 7 [2] [] Tryd.func7
theorem B1c : z7d OP := z8h B2o B1h B1f z9k
theorem u8c : Has OP "newel/newelref10.from" x_r10_from := ha 22 [] [] Tryd.func22
theorem u4x : u1m OP := s8v u8c
theorem D49 : Has OP "newel/newelref10.CheckPlant" x_r10_CheckPlant := ha 5 [2, 73, 59, 51, 42, 34, 25, 18, 12, 7] [] Tryd.func5
theorem D4i : D15 OP := D2k D49 u4x
theorem E2s : Has OP "newel/newelref10.bits" x_r10_bits := ha 27 [] [] Tryd.func27
theorem E19 : E0q OP := E0z E2s
theorem x9n : Has OP "newel/newelref10.Less" x_r10_Less := ha 13 [] [] Tryd.func13
theorem x9l : x83 OP := x85 x9n
theorem E2u : Has OP "newel/newelref10.put" x_r10_put := ha 28 [] [] Tryd.func28
theorem E2a : E0r OP := E00 E2u x9l
theorem E2n : Has OP "newel/newelref10.All" x_r10_All := ha 16 [2, 70, 50, 38, 31, 21] [(48, 10)] Tryd.func16
theorem E0c : D9l OP := D9b E2n D4i E19 E2a
theorem u74 : Has OP "newel/newellaw10.sameInts" x_l10_sameInts := ha 10 [] [] Tryd.func10
theorem u65 : u2o OP := u3p u74
theorem E2m : Has OP "newel/newellaw10.sameLists" x_l10_sameLists := ha 17 [] [] Tryd.func17
theorem E14 : E0l OP := E0u E2m u65
theorem D44 : Has OP "newel/faults.Explain" x_faults_Explain := ha 8 [2] [] Tryd.func8
theorem D4d : D10 OP := D2i D44 B1h B1f z9k
theorem E2q : Has OP "newel/newelref10.Explain" x_r10_Explain := ha 18 [2] [] Tryd.func18
theorem E17 : E0o OP := E0x E2q E0c
theorem D45 : Has OP "newel/faults.Surely" x_faults_Surely := ha 9 [2] [] Tryd.func9
theorem D4e : D11 OP := D2j D45 B1h B1f z9k
theorem E2t : Has OP "newel/newelref10.in" x_r10_in := ha 29 [] [] Tryd.func29
theorem E1a : E0b OP := D9w E2t
theorem E2r : Has OP "newel/newelref10.Surely" x_r10_Surely := ha 19 [2, 22, 20] [] Tryd.func19
theorem E18 : E0p OP := E0y E2r E0c E1a
theorem E2k : Has OP "newel/faults.Ask" x_faults_Ask := ha 20 [2, 25] [] Tryd.func20
theorem E12 : E0k OP := E0t E2k B1h B1f
theorem E2o : Has OP "newel/newelref10.Ask" x_r10_Ask := ha 21 [2, 25] [] Tryd.func21
theorem E15 : E0m OP := E0v E2o E0c E1a
theorem E2l : Has OP "newel/newellaw10.FaultsAlarms" x_l10_FaultsAlarms := ha 4 [2, 15] [(8, 6)] Tryd.func4
theorem E13 : E07 OP := E2v E2l u66 E16 B1c E0c E14 D4d E17 u65 D4e E18 E12 E15
end Go.Nw.WN
