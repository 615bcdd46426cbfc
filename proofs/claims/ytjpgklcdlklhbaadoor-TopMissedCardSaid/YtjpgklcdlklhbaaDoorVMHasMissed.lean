/- The contracts of the functions that the law reaches, of the given program. -/
import Derived.Test.YtjpgklcdlklhbaaDoorP1
import Derived.Test.YtjpgklcdlklhbaaDoorP3
import Derived.Test.YtjpgklcdlklhbaaDoorKVM1
import Derived.Test.YtjpgklcdlklhbaaDoorKVM2
import Derived.Test.YtjpgklcdlklhbaaDoorNwHas
import Derived.Test.YtjpgklcdlklhbaaDoorProg
set_option linter.all false
namespace Go.Nw.VM
open Go.Proofs Go.Nw.Tp4
set_option maxRecDepth 100000
theorem x9k : x87 (b0n Tryd.prog) := fun r h => by cases h; exact ⟨l7k, b0j, b0e _⟩
abbrev OP : Orac := b0n Tryd.prog
theorem ha {n : String} {x : XFunc} (k : Nat) {f0 : Func} (bf : List Nat) (fz : List (Nat × Nat)) (hk : Tryd.prog.funcs[k]? = some f0) (hu : ((b2k n).isNone && Tryd.prog.funcs.toList.zipIdx.all fun p => p.1.name != n || p.2 == k) = true := by kernel_rfl) (hc : c6p Tryd.prog bf fz f0 = some x := by kernel_rfl) : Has OP n x := b00 k bf fz hk hu hc
theorem C14 : Has OP "newel/newelref08.from" x_r08_from := ha 25 [] [] Tryd.func25
theorem C1o : B91 OP := j51 C14
theorem C15 : Has OP "newel/newelref08.has" x_r08_has := ha 26 [] [] Tryd.func26
theorem C1p : B92 OP := C0g C15
theorem C13 : Has OP "newel/newelref08.Check" x_r08_Check := ha 9 [1, 132, 127, 118, 113, 107, 39, 31, 24, 18, 12, 7] [] Tryd.func9
theorem C1n : B90 OP := C0f C13 C1o C1p
theorem C2c : Has OP "newel/ways.within" x_ways_within := ha 45 [] [] Tryd.func45
theorem B9w : B8j OP := c15 C2c
theorem C2a : Has OP "newel/ways.passage" x_ways_passage := ha 67 [2, 68, 64, 58, 54, 48, 44, 38, 33, 27, 22, 20, 12, 5] [] Tryd.func67
theorem C1t : B96 OP := C0k C2a B9w
theorem C17 : Has OP "newel/ways.Check" x_ways_Check := ha 44 [1, 58, 48, 28, 20, 14, 9] [] Tryd.func44
theorem C1r : B94 OP := C0i C17 B9w C1t
theorem C2b : Has OP "newel/ways.place" x_ways_place := ha 46 [2, 14] [] Tryd.func46
theorem C1u : B97 OP := C0l C2b B9w
theorem C19 : Has OP "newel/ways.asked" x_ways_asked := ha 27 [3] [] Tryd.func27
theorem C0z : B9s OP := B85 C19 C1r B9w C1u
theorem C11 : Has OP "(newel/ways.level).other" x__ways_level__other := ha 68 [4, 49, 45, 42, 38, 26, 18, 12, 8, 3, 30, 16] [] Tryd.func68
theorem C1l : B9z OP := C0e C11
theorem C1z : Has OP "(newel/ways.level).far" x__ways_level__far := ha 47 [2, 37, 36, 31, 30, 14, 13] [] Tryd.func47
theorem C1k : B9y OP := C0d C1z C1l
theorem C10 : Has OP "(newel/ways.level).joined" x__ways_level__joined := ha 28 [3] [] Tryd.func28
theorem C0y : B9r OP := B8t C10 C1k
theorem C18 : Has OP "newel/ways.Needed" x_ways_Needed := ha 10 [5] [] Tryd.func10
theorem C1s : B95 OP := C0j C18 C0z C0y
theorem C16 : Has OP "newel/ways.Apart" x_ways_Apart := ha 11 [4] [] Tryd.func11
theorem C1q : B93 OP := C0h C16 C0z C0y
theorem u71 : Has OP "newel/faults.within" x_faults_within := ha 38 [] [] Tryd.func38
theorem u4u : u1j OP := s84 u71
theorem B2u : Has OP "newel/faults.plant" x_faults_plant := ha 22 [2, 46, 36, 20, 15, 10] [] Tryd.func22
theorem B1h : z7i OP := z8m B2u u4u
theorem j3p : Has OP "slices.IndexFunc[[]int,int]" x_slices_IndexFunc___int_int_ := ha 74 [] [] Tryd.func74
theorem g8p : d0x OP := d3u j3p
theorem j3m : Has OP "slices.ContainsFunc[[]int,int]" x_slices_ContainsFunc___int_int_ := ha 55 [] [] Tryd.func55
theorem g8n : d0v OP := d3s j3m g8p
theorem B2q : Has OP "newel/faults.explained$1" x_faults_explainedD1 := ha 61 [] [] Tryd.func61
theorem B1e : z7f OP := z8j B2q
theorem B2p : Has OP "newel/faults.explained" x_faults_explained := ha 39 [5, 3, 30, 12] [] Tryd.func39
theorem B1d : z7e OP := z8i B2p g8n B1e
theorem B2y : Has OP "math/bits.OnesCount64" x_math_bits_OnesCount64 := ha 63 [] [] Tryd.func63
theorem B1l : z7l OP := z8p B2y
theorem B2x : Has OP "math/bits.OnesCount" x_math_bits_OnesCount := ha 40 [] [] Tryd.func40
theorem B1k : z7k OP := x23 B2x B1l
theorem B20 : Has OP "math/bits.TrailingZeros64" x_math_bits_TrailingZeros64 := ha 60 [] [] Tryd.func60
theorem B1m : z7m OP := z8q B20
theorem B2z : Has OP "math/bits.TrailingZeros" x_math_bits_TrailingZeros := ha 36 [] [] Tryd.func36
theorem z9l : z5w OP := z5d B2z B1m
theorem B2t : Has OP "newel/faults.members" x_faults_members := ha 24 [] [] Tryd.func24
theorem z9k : z5u OP := B8u B2t z9l
theorem B2n : Has OP "cmp.isNaN[int]" x_cmp_isNaN_int_ := ha 85 [] [] Tryd.func85
theorem B1b : z7c OP := z6a B2n
theorem B2m : Has OP "cmp.Compare[int]" x_cmp_Compare_int_ := ha 66 [] [] Tryd.func66
theorem B1a : z7b OP := z8g B2m B1b
theorem B26 : Has OP "slices.Compare[[]int,int]" x_slices_Compare___int_int_ := ha 43 [] [] Tryd.func43
theorem B1r : z7q OP := z8u B26 B1a
theorem B2s : Has OP "newel/faults.fewest$1" x_faults_fewestD1 := ha 42 [] [] Tryd.func42
theorem B1g : z7h OP := z8l B2s z9k B1r
theorem B3a : Has OP "slices.insertionSortCmpFunc[int]" x_slices_insertionSortCmpFunc_int_ := ha 75 [] [] Tryd.func75
theorem B1v : x80 OP := z8y B3a
theorem B2w : Has OP "math/bits.Len64" x_math_bits_Len64 := ha 84 [] [] Tryd.func84
theorem B1j : z7j OP := z8o B2w
theorem B2v : Has OP "math/bits.Len" x_math_bits_Len := ha 65 [] [] Tryd.func65
theorem B1i : z5v OP := z8n B2v B1j
theorem B29 : Has OP "slices.SortFunc[[]int,int]" x_slices_SortFunc___int_int_ := ha 41 [] [] Tryd.func41
theorem B3b : Has OP "slices.pdqsortCmpFunc[int]" x_slices_pdqsortCmpFunc_int_ := ha 64 [] [] Tryd.func64
theorem B1u : z5x OP := z8x B29 B3b B1v B1i
theorem B2r : Has OP "newel/faults.fewest" x_faults_fewest := ha 23 [2, 8] [] Tryd.func23
theorem B1f : z7g OP := z8k B2r B1d B1k B1g B1u
theorem B2o : Has OP "newel/faults.All" x_faults_All := ha 8 [2] [] Tryd.func8
theorem B1c : z7d OP := z8h B2o B1h B1f z9k
theorem C12 : Has OP "newel/neweltop.TopMissed" x_neweltop_TopMissed := ha 4 [5, 234, 151, 113, 107, 101, 91, 45, 40, 35, 3, 133, 123, 85, 77, 66, 58, 52, 25] [(60, 9), (60, 10)] Tryd.func4
theorem C1m : C0x OP := C2f C12 C1n x9k C1s C1q B1c
end Go.Nw.VM
