/- The contracts of the functions that the law reaches, of the given program. -/
import Derived.Test.YtinmifhfkkjccaaP1
import Derived.Test.YtinmifhfkkjccaaP2
import Derived.Test.YtinmifhfkkjccaaKXM1
import Derived.Test.YtinmifhfkkjccaaKXM2
import Derived.Test.YtinmifhfkkjccaaNwHas
import Derived.Test.YtinmifhfkkjccaaProg
set_option linter.all false
namespace Go.Nw.XM
open Go.Proofs Go.Nw.Tp3
set_option maxRecDepth 100000
theorem x9k : x87 (b0n Try.prog) := fun r h => by cases h; exact ⟨l7k, b0j, b0e _⟩
abbrev OP : Orac := b0n Try.prog
theorem ha {n : String} {x : XFunc} (k : Nat) {f0 : Func} (bf : List Nat) (fz : List (Nat × Nat)) (hk : Try.prog.funcs[k]? = some f0) (hu : ((b2k n).isNone && Try.prog.funcs.toList.zipIdx.all fun p => p.1.name != n || p.2 == k) = true := by kernel_rfl) (hc : c6p Try.prog bf fz f0 = some x := by kernel_rfl) : Has OP n x := b00 k bf fz hk hu hc
theorem K2c : Has OP "newel/newellaw01.Far" x_l01_Far := ha 5 [1, 3] [] Try.func5
theorem K06 : J9a OP := J9t K2c
theorem K2i : Has OP "newel/newelref01.within" x_r01_within := ha 23 [] [] Try.func23
theorem J9g : J7y OP := s19 K2i
theorem K2f : Has OP "newel/newelref01.Check" x_r01_Check := ha 22 [1, 48, 39, 33, 27, 21, 15, 9, 4] [] Try.func22
theorem K09 : J9c OP := J9v K2f J9g
theorem K2g : Has OP "newel/newelref01.CheckStop" x_r01_CheckStop := ha 6 [3, 34, 29, 28, 23, 22, 20, 19, 14, 13, 8, 2, 36] [] Try.func6
theorem K1a : J9d OP := J9w K2g K09 J9g
theorem K2h : Has OP "newel/newelref01.History" x_r01_History := ha 7 [2, 20, 19, 17, 16] [] Try.func7
theorem K1b : J9e OP := J9x K2h J9g
theorem K2b : Has OP "newel/drive.to" x_drive_to := ha 51 [] [] Try.func51
theorem J9f : J7x OP := J28 K2b
theorem K1z : Has OP "newel/drive.in" x_drive_in := ha 31 [3, 11, 5] [] Try.func31
theorem J8m : J7m OP := J12 K1z
theorem K1s : Has OP "newel/drive.Check$1" x_drive_CheckD1 := ha 72 [1, 8, 3] [] Try.func72
theorem K0y : J82 OP := J9n K1s J9f J8m
theorem K1r : Has OP "newel/drive.Check" x_drive_Check := ha 50 [1, 41, 36, 29, 22, 15, 10, 6] [] Try.func50
theorem K0x : J81 OP := J9m K1r J9f J8m K0y
theorem K1x : Has OP "newel/drive.checkStop" x_drive_checkStop := ha 27 [3, 43, 38, 33, 32, 27, 26, 24, 23, 18, 17, 11, 2, 45] [] Try.func27
theorem J99 : J8g OP := J76 K1x K0x J9f J8m
theorem K1p : Has OP "(*newel/drive.motion).grip" x___drive_motion__grip := ha 55 [] [] Try.func55
theorem K0w : J80 OP := J9l K1p
theorem K1y : Has OP "newel/drive.floor" x_drive_floor := ha 93 [] [] Try.func93
theorem K03 : J87 OP := J9r K1y
theorem K1w : Has OP "newel/drive.ahead" x_drive_ahead := ha 73 [] [] Try.func73
theorem K02 : J86 OP := J8s K1w K03
theorem K2a : Has OP "newel/drive.tick" x_drive_tick := ha 54 [4, 24, 20, 16, 12] [] Try.func54
theorem K05 : J89 OP := J9s K2a K02
theorem K1q : Has OP "(*newel/drive.motion).with" x___drive_motion__with := ha 32 [] [] Try.func32
theorem J98 : J8f OP := J7v K1q K0w K05
theorem K1o : Has OP "(*newel/drive.motion).extreme" x___drive_motion__extreme := ha 52 [] [] Try.func52
theorem K0v : J8z OP := J9k K1o J98
theorem K15 : Has OP "newel/drive.run" x_drive_run := ha 28 [4, 14, 11, 3] [] Try.func28
theorem K04 : J88 OP := J8t K15 K0v
theorem K1t : Has OP "newel/drive.Distance" x_drive_Distance := ha 9 [3, 2] [(14, 7), (14, 8), (1000007, 7), (1000007, 8), (1000007, 28), (1000007, 30), (1000007, 33), (1000007, 36)] Try.func9
theorem K0z : J83 OP := J9o K1t J99 K04
theorem j3p : Has OP "slices.IndexFunc[[]int,int]" x_slices_IndexFunc___int_int_ := ha 53 [] [] Try.func53
theorem g8p : d0x OP := d3u j3p
theorem j3m : Has OP "slices.ContainsFunc[[]int,int]" x_slices_ContainsFunc___int_int_ := ha 29 [] [] Try.func29
theorem g8n : d0v OP := d3s j3m g8p
theorem K1v : Has OP "newel/drive.Play$1" x_drive_PlayD1 := ha 30 [] [] Try.func30
theorem K01 : J85 OP := J9q K1v J8m
theorem K1u : Has OP "newel/drive.Play" x_drive_Play := ha 10 [4, 29, 3] [] Try.func10
theorem K00 : J84 OP := J9p K1u J99 g8n K01 J98
theorem K2e : Has OP "newel/neweltop.watch" x_neweltop_watch := ha 11 [] [] Try.func11
theorem K08 : J9b OP := J9u K2e
theorem j3l : Has OP "newel/situation.within" x_situation_within := ha 57 [] [] Try.func57
theorem d6l : c5u OP := b4q j3l
theorem d8e : Has OP "slices.Concat[[]string,string]" x_slices_Concat___string_string_ := ha 101 [] [] Try.func101
theorem d8f : Has OP "slices.Grow[[]string,string]" x_slices_Grow___string_string_ := ha 102 [] [] Try.func102
theorem g8l : d0t OP := d3q d8e d8f
theorem j3j : Has OP "newel/situation.names" x_situation_names := ha 94 [1, 27, 14, 10, 8] [] Try.func94
theorem g8j : d0r OP := d3o j3j g8l
theorem g8m : d0u OP := d3r d8e d8f
theorem j3k : Has OP "newel/situation.names" x_situation_names := ha 94 [1, 27, 14, 10, 8] [] Try.func94
theorem g8k : d0s OP := d3p j3k g8m
theorem g8i : d0q OP := d3n g8j g8k
theorem j3f : Has OP "newel/situation.Plain" x_situation_Plain := ha 95 [] [] Try.func95
theorem g8e : d0m OP := d3j j3f
theorem j3g : Has OP "newel/situation.Reserved" x_situation_Reserved := ha 96 [] [] Try.func96
theorem g8f : d0n OP := d3k j3g
theorem j3i : Has OP "newel/situation.named" x_situation_named := ha 74 [1] [] Try.func74
theorem g8h : d0p OP := d3m j3i g8i g8e g8f
theorem j3r : Has OP "slices.IndexFunc[newel/api.Term,newel/api.Literal]" x_slices_IndexFunc_api_Term_api_Literal_ := ha 97 [] [] Try.func97
theorem g8r : d0z OP := d3w j3r
theorem j3o : Has OP "slices.ContainsFunc[newel/api.Term,newel/api.Literal]" x_slices_ContainsFunc_api_Term_api_Literal_ := ha 75 [] [] Try.func75
theorem d1a : c1o OP := b8n j3o g8r
theorem j3h : Has OP "newel/situation.asks" x_situation_asks := ha 82 [3, 66, 58, 52, 44, 35, 31, 23, 17, 9, 5, 2, 60, 46, 33, 25, 11] [] Try.func82
theorem g8g : d0o OP := d3l j3h d6l
theorem j3c : Has OP "newel/situation.Asked$1" x_situation_AskedD1 := ha 81 [2] [] Try.func81
theorem g8b : d0j OP := d3g j3c g8g
theorem j3b : Has OP "newel/situation.Asked" x_situation_Asked := ha 61 [2] [] Try.func61
theorem d6k : c5t OP := c3p j3b d1a g8b
theorem j3e : Has OP "newel/situation.Check$1" x_situation_CheckD1 := ha 76 [1, 3] [] Try.func76
theorem g8d : d0l OP := d3i j3e
theorem j3d : Has OP "newel/situation.Check" x_situation_Check := ha 56 [1, 138, 94, 85, 76, 68, 59, 47, 37, 30, 24, 18, 13] [] Try.func56
theorem g8c : d0k OP := d3h j3d d6l g8h d6k d1a g8d
theorem j2j : Has OP "newel/control.Check" x_control_Check := ha 33 [1] [] Try.func33
theorem g7n : c96 OP := d24 j2j g8c
theorem j2o : Has OP "newel/control.of" x_control_of := ha 34 [1] [] Try.func34
theorem d58 : c5h OP := c3f j2o
theorem j2a : Has OP "(newel/situation.Plant).All" x__situation_Plant__All := ha 58 [1, 4, 3] [] Try.func58
theorem g69 : c9y OP := d2w j2a
theorem p3w : Has OP "(newel/situation.Plant).Input" x__situation_Plant__Input := ha 35 [2] [] Try.func35
theorem p3o : p2o OP := p2y p3w g69 d6l
theorem j3q : Has OP "slices.IndexFunc[newel/api.Cond,newel/api.Term]" x_slices_IndexFunc_api_Cond_api_Term_ := ha 98 [] [] Try.func98
theorem g8q : d0y OP := d3v j3q
theorem j3n : Has OP "slices.ContainsFunc[newel/api.Cond,newel/api.Term]" x_slices_ContainsFunc_api_Cond_api_Term_ := ha 77 [] [] Try.func77
theorem g8o : d0w OP := d3t j3n g8q
theorem j2g : Has OP "(newel/situation.Plant).literal" x__situation_Plant__literal := ha 80 [6, 42, 32, 25, 24, 5, 53, 47, 34, 27, 22, 15, 10, 4, 40, 39] [] Try.func80
theorem g7e : c93 OP := d21 j2g
theorem j2e : Has OP "(newel/situation.Plant).Holds$1$1" x__situation_Plant__HoldsD1D1 := ha 79 [4] [] Try.func79
theorem g7c : c91 OP := d2z j2e g7e
theorem j2d : Has OP "(newel/situation.Plant).Holds$1" x__situation_Plant__HoldsD1 := ha 78 [] [] Try.func78
theorem g7b : c90 OP := d2y j2d d1a g7c
theorem j2c : Has OP "(newel/situation.Plant).Holds" x__situation_Plant__Holds := ha 59 [7, 6, 4] [] Try.func59
theorem c6m : b89 OP := b52 j2c g8o g7b
theorem j2h : Has OP "(newel/situation.Plant).set" x__situation_Plant__set := ha 60 [4, 29, 13, 8, 3, 27, 26] [] Try.func60
theorem g7f : c94 OP := d22 j2h
theorem j2f : Has OP "(newel/situation.Plant).Step" x__situation_Plant__Step := ha 36 [3, 12, 11] [] Try.func36
theorem g7d : c92 OP := d20 j2f c6m g7f
theorem r30 : Has OP "newel/control.Run" x_control_Run := ha 12 [2] [] Try.func12
theorem r3k : r1y OP := r2c r30 g7n d58 p3o g7d
theorem j2n : Has OP "newel/control.check" x_control_check := ha 37 [2] [] Try.func37
theorem d57 : c5g OP := c3e j2n g7n d6k
theorem j2b : Has OP "(newel/situation.Plant).Allowed" x__situation_Plant__Allowed := ha 83 [6, 4] [] Try.func83
theorem g7a : c9z OP := d2x j2b c6m
theorem j17 : Has OP "(newel/control.plant).explore" x__control_plant__explore := ha 62 [3, 60, 53, 41] [(42, 11)] Try.func62
theorem d55 : c5e OP := c3c j17 g69 g7a g7d
theorem j3s : Has OP "slices.Reverse[[]int,int]" x_slices_Reverse___int_int_ := ha 99 [] [] Try.func99
theorem g8s : d00 OP := d3x j3s
theorem j14 : Has OP "(*newel/control.walk).run" x___control_walk__run := ha 84 [] [] Try.func84
theorem g65 : c9u OP := d2s j14 g8s
theorem j13 : Has OP "(*newel/control.walk).first" x___control_walk__first := ha 63 [] [] Try.func63
theorem d54 : c5d OP := c3b j13 g65
theorem j16 : Has OP "(newel/control.plant).breach$1" x__control_plant__breachD1 := ha 64 [] [] Try.func64
theorem g67 : c9w OP := d2u j16 c6m
theorem j15 : Has OP "(newel/control.plant).breach" x__control_plant__breach := ha 38 [6, 4] [(4, 10)] Try.func38
theorem g66 : c9v OP := d2t j15 d55 d54 g67
theorem j2p : Has OP "newel/control.same" x_control_same := ha 39 [] [] Try.func39
theorem d59 : c5i OP := c3g j2p
theorem j2i : Has OP "newel/control.Breach" x_control_Breach := ha 13 [3] [] Try.func13
theorem g7m : c95 OP := d23 j2i d57 d58 g66 d59
theorem K2d : Has OP "newel/neweltop.TopWatched" x_neweltop_TopWatched := ha 3 [4, 3] [(1000018, 114), (1000018, 115), (34, 12)] Try.func3
theorem K07 : J93 OP := K2m K2d K06 K1a K1b x9k K0z K00 K08 r3k g7m
end Go.Nw.XM
