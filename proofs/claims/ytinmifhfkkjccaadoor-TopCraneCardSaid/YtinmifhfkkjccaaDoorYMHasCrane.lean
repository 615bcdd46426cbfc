/- The contracts of the functions that the law reaches, of the given program. -/
import Derived.Test.YtinmifhfkkjccaaDoorP1
import Derived.Test.YtinmifhfkkjccaaDoorP2
import Derived.Test.YtinmifhfkkjccaaDoorP3
import Derived.Test.YtinmifhfkkjccaaDoorKYM1
import Derived.Test.YtinmifhfkkjccaaDoorKYM2
import Derived.Test.YtinmifhfkkjccaaDoorNwHas
import Derived.Test.YtinmifhfkkjccaaDoorProg
set_option linter.all false
namespace Go.Nw.YM
open Go.Proofs Go.Nw.Tp5
set_option maxRecDepth 100000
theorem x9k:L16 (b0n Tryd.prog):=fun r h=>by cases h; exact ⟨l7k,b0j,b0e _⟩
abbrev OP:Orac:=b0n Tryd.prog
theorem ha {n:String} {x:XFunc} (k:Nat) {f0:Func} (bf:List Nat) (fz:List (Nat × Nat)) (hk:Tryd.prog.funcs[k]?=some f0) (hu:((b2k n).isNone && Tryd.prog.funcs.toList.zipIdx.all fun p=>p.1.name != n || p.2 == k)=true:=by kernel_rfl) (hc:c6p Tryd.prog bf fz f0=some x:=by kernel_rfl):Has OP n x:=b00 k bf fz hk hu hc
theorem M1a:Has OP "newel/newellaw09.Far" x_l09_Far:=ha 4 [1,3] [] Tryd.func4
theorem L93:L6o OP:=L7b M1a
theorem M1l:Has OP "newel/newelref09.within" x_r09_within:=ha 16 [] [] Tryd.func16
theorem L57:L40 OP:=L4b M1l
theorem M1j:Has OP "newel/newelref09.inside" x_r09_inside:=ha 31 [3,11,2,15,14] [] Tryd.func31
theorem M0b:L6w OP:=L7g M1j L57
theorem M1d:Has OP "newel/newelref09.Check" x_r09_Check:=ha 15 [1,27,20,15,14,5] [] Tryd.func15
theorem L96:L6r OP:=L7c M1d L57 M0b
theorem M1e:Has OP "newel/newelref09.CheckCrate" x_r09_CheckCrate:=ha 5 [3,14,2] [] Tryd.func5
theorem L8d:L52 OP:=L5f M1e L96 L57
theorem M1k:Has OP "newel/newelref09.orders" x_r09_orders:=ha 57 [] [] Tryd.func57
theorem M0c:L6x OP:=L7h M1k
theorem M1g:Has OP "newel/newelref09.along" x_r09_along:=ha 38 [2,19,15,11] [] Tryd.func38
theorem L98:L6t OP:=L7d M1g M0c
theorem M1i:Has OP "newel/newelref09.free" x_r09_free:=ha 37 [5,94,77,60,29,4,92,85,75,68,58,52,26,20,15,3,45,39,34,33] [] Tryd.func37
theorem M0a:L6v OP:=L7f M1i
theorem M1h:Has OP "newel/newelref09.fits" x_r09_fits:=ha 21 [5,15,12,7,4,3] [] Tryd.func21
theorem L99:L6u OP:=L7e M1h L57 L98 M0a
theorem M1f:Has OP "newel/newelref09.Fits" x_r09_Fits:=ha 7 [5,4,3] [] Tryd.func7
theorem L97:L6s OP:=L6b M1f L8d L99
theorem J3o:Has OP "newel/neweltop.four" x_neweltop_four:=ha 8 [] [] Tryd.func8
theorem J2p:J0i OP:=J0s J3o
theorem J3p:Has OP "newel/neweltop.letter" x_neweltop_letter:=ha 9 [] [] Tryd.func9
theorem J2q:J0j OP:=J0t J3p
theorem M1n:Has OP "newel/shaft.Check" x_shaft_Check:=ha 39 [1,43,42,25,21,9] [] Tryd.func39
theorem M0e:L6y OP:=L7j M1n
theorem M1p:Has OP "newel/shaft.check" x_shaft_check:=ha 22 [3,2] [] Tryd.func22
theorem L8e:L41 OP:=L5g M1p M0e
theorem M1q:Has OP "slices.Index[[][3]int,[3]int]" x_slices_Index____3_int__3_int_:=ha 42 [3] [] Tryd.func42
theorem L8f:L5d OP:=L5h M1q
theorem M1o:Has OP "newel/shaft.Move" x_shaft_Move:=ha 10 [6,5,4] [] Tryd.func10
theorem L8r:Has OP "newel/shaft.begin" x_shaft_begin:=ha 23 [] [] Tryd.func23
theorem L8n:Has OP "(*newel/shaft.crate).fits" x___shaft_crate__fits:=ha 24 [3,18,15,9,5] [] Tryd.func24
theorem L8q:Has OP "(*newel/shaft.crate).move" x___shaft_crate__move:=ha 25 [] [] Tryd.func25
theorem L8p:Has OP "(*newel/shaft.crate).long" x___shaft_crate__long:=ha 41 [] [] Tryd.func41
theorem L8o:Has OP "(*newel/shaft.crate).free" x___shaft_crate__free:=ha 40 [5,64,53,42,31,4,62,59,51,48,40,37,22,17] [] Tryd.func40
theorem M0f:L54 OP:=L7k M1o L8r L8n L8q L8p L8o L8e L8f
theorem M1c:Has OP "newel/neweltop.posed" x_neweltop_posed:=ha 11 [3] [] Tryd.func11
theorem L95:L6q OP:=L6a M1c
theorem J3m:Has OP "newel/neweltop.bits" x_neweltop_bits:=ha 12 [] [(12,3)] Tryd.func12
theorem J2n:J0g OP:=H93 J3m
theorem j3s:Has OP "slices.Reverse[[]int,int]" x_slices_Reverse___int_int_:=ha 43 [] [] Tryd.func43
theorem g8s:d00 OP:=d3x j3s
theorem M1m:Has OP "newel/shaft.Carry" x_shaft_Carry:=ha 13 [7,6,5,4] [] Tryd.func13
theorem M09:Has OP "(*newel/shaft.crate).carry" x___shaft_crate__carry:=ha 26 [5,4] [] Tryd.func26
theorem M0d:L53 OP:=L7i M1m L8r L8n L8q L8p L8o M09 L8e L8f g8s
theorem j3l:Has OP "newel/situation.within" x_situation_within:=ha 80 [] [] Tryd.func80
theorem d6l:c5u OP:=b4q j3l
theorem d8e:Has OP "slices.Concat[[]string,string]" x_slices_Concat___string_string_:=ha 94 [] [] Tryd.func94
theorem d8f:Has OP "slices.Grow[[]string,string]" x_slices_Grow___string_string_:=ha 96 [] [] Tryd.func96
theorem g8l:d0t OP:=d3q d8e d8f
theorem j3j:Has OP "newel/situation.names" x_situation_names:=ha 90 [1,27,14,10,8] [] Tryd.func90
theorem g8j:d0r OP:=d3o j3j g8l
theorem g8m:d0u OP:=d3r d8e d8f
theorem j3k:Has OP "newel/situation.names" x_situation_names:=ha 90 [1,27,14,10,8] [] Tryd.func90
theorem g8k:d0s OP:=d3p j3k g8m
theorem g8i:d0q OP:=d3n g8j g8k
theorem j3f:Has OP "newel/situation.Plain" x_situation_Plain:=ha 91 [] [] Tryd.func91
theorem g8e:d0m OP:=d3j j3f
theorem j3g:Has OP "newel/situation.Reserved" x_situation_Reserved:=ha 92 [] [] Tryd.func92
theorem g8f:d0n OP:=d3k j3g
theorem j3i:Has OP "newel/situation.named" x_situation_named:=ha 81 [1] [] Tryd.func81
theorem g8h:d0p OP:=d3m j3i g8i g8e g8f
theorem j3r:Has OP "slices.IndexFunc[newel/api.Term,newel/api.Literal]" x_slices_IndexFunc_api_Term_api_Literal_:=ha 83 [] [] Tryd.func83
theorem g8r:d0z OP:=d3w j3r
theorem j3o:Has OP "slices.ContainsFunc[newel/api.Term,newel/api.Literal]" x_slices_ContainsFunc_api_Term_api_Literal_:=ha 59 [] [] Tryd.func59
theorem d1a:c1o OP:=b8n j3o g8r
theorem j3h:Has OP "newel/situation.asks" x_situation_asks:=ha 61 [3,66,58,52,44,35,31,23,17,9,5,2,60,46,33,25,11] [] Tryd.func61
theorem g8g:d0o OP:=d3l j3h d6l
theorem j3c:Has OP "newel/situation.Asked$1" x_situation_AskedD1:=ha 60 [2] [] Tryd.func60
theorem g8b:d0j OP:=d3g j3c g8g
theorem j3b:Has OP "newel/situation.Asked" x_situation_Asked:=ha 45 [2] [] Tryd.func45
theorem d6k:c5t OP:=c3p j3b d1a g8b
theorem j3e:Has OP "newel/situation.Check$1" x_situation_CheckD1:=ha 82 [1,3] [] Tryd.func82
theorem g8d:d0l OP:=d3i j3e
theorem j3d:Has OP "newel/situation.Check" x_situation_Check:=ha 58 [1,138,94,85,76,68,59,47,37,30,24,18,13] [] Tryd.func58
theorem g8c:d0k OP:=d3h j3d d6l g8h d6k d1a g8d
theorem j2j:Has OP "newel/control.Check" x_control_Check:=ha 44 [1] [] Tryd.func44
theorem g7n:c96 OP:=d24 j2j g8c
theorem j2n:Has OP "newel/control.check" x_control_check:=ha 27 [2] [] Tryd.func27
theorem d57:c5g OP:=c3e j2n g7n d6k
theorem j2o:Has OP "newel/control.of" x_control_of:=ha 28 [1] [] Tryd.func28
theorem d58:c5h OP:=c3f j2o
theorem j2a:Has OP "(newel/situation.Plant).All" x__situation_Plant__All:=ha 62 [1,4,3] [] Tryd.func62
theorem g69:c9y OP:=d2w j2a
theorem j3q:Has OP "slices.IndexFunc[newel/api.Cond,newel/api.Term]" x_slices_IndexFunc_api_Cond_api_Term_:=ha 85 [] [] Tryd.func85
theorem g8q:d0y OP:=d3v j3q
theorem j3n:Has OP "slices.ContainsFunc[newel/api.Cond,newel/api.Term]" x_slices_ContainsFunc_api_Cond_api_Term_:=ha 66 [] [] Tryd.func66
theorem g8o:d0w OP:=d3t j3n g8q
theorem j2g:Has OP "(newel/situation.Plant).literal" x__situation_Plant__literal:=ha 69 [6,42,32,25,24,5,53,47,34,27,22,15,10,4,40,39] [] Tryd.func69
theorem g7e:c93 OP:=d21 j2g
theorem j2e:Has OP "(newel/situation.Plant).Holds$1$1" x__situation_Plant__HoldsD1D1:=ha 68 [4] [] Tryd.func68
theorem g7c:c91 OP:=d2z j2e g7e
theorem j2d:Has OP "(newel/situation.Plant).Holds$1" x__situation_Plant__HoldsD1:=ha 67 [] [] Tryd.func67
theorem g7b:c90 OP:=d2y j2d d1a g7c
theorem j2c:Has OP "(newel/situation.Plant).Holds" x__situation_Plant__Holds:=ha 49 [7,6,4] [] Tryd.func49
theorem c6m:b89 OP:=b52 j2c g8o g7b
theorem j2b:Has OP "(newel/situation.Plant).Allowed" x__situation_Plant__Allowed:=ha 63 [6,4] [] Tryd.func63
theorem g7a:c9z OP:=d2x j2b c6m
theorem j2h:Has OP "(newel/situation.Plant).set" x__situation_Plant__set:=ha 84 [4,29,13,8,3,27,26] [] Tryd.func84
theorem g7f:c94 OP:=d22 j2h
theorem j2f:Has OP "(newel/situation.Plant).Step" x__situation_Plant__Step:=ha 64 [3,12,11] [] Tryd.func64
theorem g7d:c92 OP:=d20 j2f c6m g7f
theorem j17:Has OP "(newel/control.plant).explore" x__control_plant__explore:=ha 46 [3,60,53,41] [(42,11)] Tryd.func46
theorem d55:c5e OP:=c3c j17 g69 g7a g7d
theorem j14:Has OP "(*newel/control.walk).run" x___control_walk__run:=ha 65 [] [] Tryd.func65
theorem g65:c9u OP:=d2s j14 g8s
theorem j13:Has OP "(*newel/control.walk).first" x___control_walk__first:=ha 47 [] [] Tryd.func47
theorem d54:c5d OP:=c3b j13 g65
theorem j16:Has OP "(newel/control.plant).breach$1" x__control_plant__breachD1:=ha 48 [] [] Tryd.func48
theorem g67:c9w OP:=d2u j16 c6m
theorem j15:Has OP "(newel/control.plant).breach" x__control_plant__breach:=ha 29 [6,4] [(4,10)] Tryd.func29
theorem g66:c9v OP:=d2t j15 d55 d54 g67
theorem j2p:Has OP "newel/control.same" x_control_same:=ha 30 [] [] Tryd.func30
theorem d59:c5i OP:=c3g j2p
theorem j2i:Has OP "newel/control.Breach" x_control_Breach:=ha 14 [3] [] Tryd.func14
theorem g7m:c95 OP:=d23 j2i d57 d58 g66 d59
theorem M1b:Has OP "newel/neweltop.TopCrane" x_neweltop_TopCrane:=ha 3 [5,4,133,131,84,59,46,39,37,29,3] [(1000030,155),(1000030,156),(47,0),(60,12)] Tryd.func3
theorem L94:L8a OP:=M1z M1b L93 L8d x9k L97 J2p J2q M0f L95 J2n M0d g7m
end Go.Nw.YM
