/- The contracts of the functions that the law reaches, of the given program. -/
import Derived.Test.YtinmifhfkkjccaaP1
import Derived.Test.YtinmifhfkkjccaaP2
import Derived.Test.YtinmifhfkkjccaaKXM1
import Derived.Test.YtinmifhfkkjccaaKXM2
import Derived.Test.YtinmifhfkkjccaaNwHas
import Derived.Test.YtinmifhfkkjccaaProg
set_option linter.all false
namespace Go.Nw.XM
open Go.Proofs Go.Nw.Tp3
set_option maxRecDepth 100000
theorem x9k : x87 (b0n Try.prog) := fun r h => by cases h; exact ⟨l7k, b0j, b0e _⟩
abbrev OP : Orac := b0n Try.prog
theorem ha {n : String} {x : XFunc} (k : Nat) {f0 : Func} (bf : List Nat) (fz : List (Nat × Nat)) (hk : Try.prog.funcs[k]? = some f0) (hu : ((b2k n).isNone && Try.prog.funcs.toList.zipIdx.all fun p => p.1.name != n || p.2 == k) = true := by kernel_rfl) (hc : c6p Try.prog bf fz f0 = some x := by kernel_rfl) : Has OP n x := b00 k bf fz hk hu hc
theorem C14 : Has OP "newel/newelref08.from" x_r08_from := ha 40 [] [] Try.func40
theorem C1o : B91 OP := j51 C14
theorem C15 : Has OP "newel/newelref08.has" x_r08_has := ha 41 [] [] Try.func41
theorem C1p : B92 OP := C0g C15
theorem C13 : Has OP "newel/newelref08.Check" x_r08_Check := ha 14 [1, 132, 127, 118, 113, 107, 39, 31, 24, 18, 12, 7] [] Try.func14
theorem C1n : B90 OP := C0f C13 C1o C1p
theorem J3q : Has OP "newel/newelref08.Copy" x_r08_Copy := ha 15 [1, 10, 6, 3] [] Try.func15
theorem J2r : J0k OP := J0u J3q
theorem J3o : Has OP "newel/neweltop.four" x_neweltop_four := ha 16 [] [] Try.func16
theorem J2p : J0i OP := J0s J3o
theorem J3p : Has OP "newel/neweltop.letter" x_neweltop_letter := ha 17 [] [] Try.func17
theorem J2q : J0j OP := J0t J3p
theorem J3s : Has OP "newel/newelref08.Other" x_r08_Other := ha 42 [2, 15, 11, 9, 5] [] Try.func42
theorem J2t : J0m OP := J0w J3s
theorem J3u : Has OP "newel/newelref08.isOut" x_r08_isOut := ha 65 [] [] Try.func65
theorem J2v : J0o OP := J0y J3u
theorem J3t : Has OP "newel/newelref08.free" x_r08_free := ha 43 [3, 23, 16, 11, 7] [] Try.func43
theorem J2u : J0n OP := J0x J3t J2v
theorem J3r : Has OP "newel/newelref08.Free" x_r08_Free := ha 18 [6, 33, 27] [] Try.func18
theorem J2s : J0l OP := J0v J3r C1o J2t J2u
theorem J3n : Has OP "newel/neweltop.first" x_neweltop_first := ha 19 [] [] Try.func19
theorem J2o : J0h OP := H9o J3n
theorem J3m : Has OP "newel/neweltop.bits" x_neweltop_bits := ha 20 [] [(12, 3)] Try.func20
theorem J2n : J0g OP := H93 J3m
theorem C2c : Has OP "newel/ways.within" x_ways_within := ha 67 [] [] Try.func67
theorem B9w : B8j OP := c15 C2c
theorem C2a : Has OP "newel/ways.passage" x_ways_passage := ha 85 [2, 68, 64, 58, 54, 48, 44, 38, 33, 27, 22, 20, 12, 5] [] Try.func85
theorem C1t : B96 OP := C0k C2a B9w
theorem C17 : Has OP "newel/ways.Check" x_ways_Check := ha 66 [1, 58, 48, 28, 20, 14, 9] [] Try.func66
theorem C1r : B94 OP := C0i C17 B9w C1t
theorem C2b : Has OP "newel/ways.place" x_ways_place := ha 68 [2, 14] [] Try.func68
theorem C1u : B97 OP := C0l C2b B9w
theorem C19 : Has OP "newel/ways.asked" x_ways_asked := ha 44 [3] [] Try.func44
theorem C0z : B9s OP := B85 C19 C1r B9w C1u
theorem C11 : Has OP "(newel/ways.level).other" x__ways_level__other := ha 46 [4, 49, 45, 42, 38, 26, 18, 12, 8, 3, 30, 16] [] Try.func46
theorem C1l : B9z OP := C0e C11
theorem C1z : Has OP "(newel/ways.level).far" x__ways_level__far := ha 45 [2, 37, 36, 31, 30, 14, 13] [] Try.func45
theorem C1k : B9y OP := C0d C1z C1l
theorem J3v : Has OP "newel/ways.Way" x_ways_Way := ha 21 [5, 44] [] Try.func21
theorem J2w : J0p OP := J0z J3v C0z C1k C1l
theorem j3l : Has OP "newel/situation.within" x_situation_within := ha 57 [] [] Try.func57
theorem d6l : c5u OP := b4q j3l
theorem d8e : Has OP "slices.Concat[[]string,string]" x_slices_Concat___string_string_ := ha 101 [] [] Try.func101
theorem d8f : Has OP "slices.Grow[[]string,string]" x_slices_Grow___string_string_ := ha 102 [] [] Try.func102
theorem g8l : d0t OP := d3q d8e d8f
theorem j3j : Has OP "newel/situation.names" x_situation_names := ha 94 [1, 27, 14, 10, 8] [] Try.func94
theorem g8j : d0r OP := d3o j3j g8l
theorem g8m : d0u OP := d3r d8e d8f
theorem j3k : Has OP "newel/situation.names" x_situation_names := ha 94 [1, 27, 14, 10, 8] [] Try.func94
theorem g8k : d0s OP := d3p j3k g8m
theorem g8i : d0q OP := d3n g8j g8k
theorem j3f : Has OP "newel/situation.Plain" x_situation_Plain := ha 95 [] [] Try.func95
theorem g8e : d0m OP := d3j j3f
theorem j3g : Has OP "newel/situation.Reserved" x_situation_Reserved := ha 96 [] [] Try.func96
theorem g8f : d0n OP := d3k j3g
theorem j3i : Has OP "newel/situation.named" x_situation_named := ha 74 [1] [] Try.func74
theorem g8h : d0p OP := d3m j3i g8i g8e g8f
theorem j3r : Has OP "slices.IndexFunc[newel/api.Term,newel/api.Literal]" x_slices_IndexFunc_api_Term_api_Literal_ := ha 97 [] [] Try.func97
theorem g8r : d0z OP := d3w j3r
theorem j3o : Has OP "slices.ContainsFunc[newel/api.Term,newel/api.Literal]" x_slices_ContainsFunc_api_Term_api_Literal_ := ha 75 [] [] Try.func75
theorem d1a : c1o OP := b8n j3o g8r
theorem j3h : Has OP "newel/situation.asks" x_situation_asks := ha 82 [3, 66, 58, 52, 44, 35, 31, 23, 17, 9, 5, 2, 60, 46, 33, 25, 11] [] Try.func82
theorem g8g : d0o OP := d3l j3h d6l
theorem j3c : Has OP "newel/situation.Asked$1" x_situation_AskedD1 := ha 81 [2] [] Try.func81
theorem g8b : d0j OP := d3g j3c g8g
theorem j3b : Has OP "newel/situation.Asked" x_situation_Asked := ha 61 [2] [] Try.func61
theorem d6k : c5t OP := c3p j3b d1a g8b
theorem j3e : Has OP "newel/situation.Check$1" x_situation_CheckD1 := ha 76 [1, 3] [] Try.func76
theorem g8d : d0l OP := d3i j3e
theorem j3d : Has OP "newel/situation.Check" x_situation_Check := ha 56 [1, 138, 94, 85, 76, 68, 59, 47, 37, 30, 24, 18, 13] [] Try.func56
theorem g8c : d0k OP := d3h j3d d6l g8h d6k d1a g8d
theorem j2j : Has OP "newel/control.Check" x_control_Check := ha 33 [1] [] Try.func33
theorem g7n : c96 OP := d24 j2j g8c
theorem j2n : Has OP "newel/control.check" x_control_check := ha 37 [2] [] Try.func37
theorem d57 : c5g OP := c3e j2n g7n d6k
theorem j2o : Has OP "newel/control.of" x_control_of := ha 34 [1] [] Try.func34
theorem d58 : c5h OP := c3f j2o
theorem j2a : Has OP "(newel/situation.Plant).All" x__situation_Plant__All := ha 58 [1, 4, 3] [] Try.func58
theorem g69 : c9y OP := d2w j2a
theorem j3q : Has OP "slices.IndexFunc[newel/api.Cond,newel/api.Term]" x_slices_IndexFunc_api_Cond_api_Term_ := ha 98 [] [] Try.func98
theorem g8q : d0y OP := d3v j3q
theorem j3n : Has OP "slices.ContainsFunc[newel/api.Cond,newel/api.Term]" x_slices_ContainsFunc_api_Cond_api_Term_ := ha 77 [] [] Try.func77
theorem g8o : d0w OP := d3t j3n g8q
theorem j2g : Has OP "(newel/situation.Plant).literal" x__situation_Plant__literal := ha 80 [6, 42, 32, 25, 24, 5, 53, 47, 34, 27, 22, 15, 10, 4, 40, 39] [] Try.func80
theorem g7e : c93 OP := d21 j2g
theorem j2e : Has OP "(newel/situation.Plant).Holds$1$1" x__situation_Plant__HoldsD1D1 := ha 79 [4] [] Try.func79
theorem g7c : c91 OP := d2z j2e g7e
theorem j2d : Has OP "(newel/situation.Plant).Holds$1" x__situation_Plant__HoldsD1 := ha 78 [] [] Try.func78
theorem g7b : c90 OP := d2y j2d d1a g7c
theorem j2c : Has OP "(newel/situation.Plant).Holds" x__situation_Plant__Holds := ha 59 [7, 6, 4] [] Try.func59
theorem c6m : b89 OP := b52 j2c g8o g7b
theorem j2b : Has OP "(newel/situation.Plant).Allowed" x__situation_Plant__Allowed := ha 83 [6, 4] [] Try.func83
theorem g7a : c9z OP := d2x j2b c6m
theorem j2h : Has OP "(newel/situation.Plant).set" x__situation_Plant__set := ha 60 [4, 29, 13, 8, 3, 27, 26] [] Try.func60
theorem g7f : c94 OP := d22 j2h
theorem j2f : Has OP "(newel/situation.Plant).Step" x__situation_Plant__Step := ha 36 [3, 12, 11] [] Try.func36
theorem g7d : c92 OP := d20 j2f c6m g7f
theorem j17 : Has OP "(newel/control.plant).explore" x__control_plant__explore := ha 62 [3, 60, 53, 41] [(42, 11)] Try.func62
theorem d55 : c5e OP := c3c j17 g69 g7a g7d
theorem j3s : Has OP "slices.Reverse[[]int,int]" x_slices_Reverse___int_int_ := ha 99 [] [] Try.func99
theorem g8s : d00 OP := d3x j3s
theorem j14 : Has OP "(*newel/control.walk).run" x___control_walk__run := ha 84 [] [] Try.func84
theorem g65 : c9u OP := d2s j14 g8s
theorem j13 : Has OP "(*newel/control.walk).first" x___control_walk__first := ha 63 [] [] Try.func63
theorem d54 : c5d OP := c3b j13 g65
theorem j16 : Has OP "(newel/control.plant).breach$1" x__control_plant__breachD1 := ha 64 [] [] Try.func64
theorem g67 : c9w OP := d2u j16 c6m
theorem j15 : Has OP "(newel/control.plant).breach" x__control_plant__breach := ha 38 [6, 4] [(4, 10)] Try.func38
theorem g66 : c9v OP := d2t j15 d55 d54 g67
theorem j2p : Has OP "newel/control.same" x_control_same := ha 39 [] [] Try.func39
theorem d59 : c5i OP := c3g j2p
theorem j2i : Has OP "newel/control.Breach" x_control_Breach := ha 13 [3] [] Try.func13
theorem g7m : c95 OP := d23 j2i d57 d58 g66 d59
theorem J3l : Has OP "newel/neweltop.TopWalks" x_neweltop_TopWalks := ha 4 [3, 160, 158, 150, 148, 146, 144, 124, 119, 104, 102, 58, 53, 46, 41, 36, 31, 2, 70, 60, 48, 25] [(1000019, 164), (1000019, 165), (35, 0), (36, 5), (38, 6)] Try.func4
theorem J2m : J1e OP := J32 J3l C1n x9k J2r J2p J2q J2s J2o J2n J2w g7m
end Go.Nw.XM
