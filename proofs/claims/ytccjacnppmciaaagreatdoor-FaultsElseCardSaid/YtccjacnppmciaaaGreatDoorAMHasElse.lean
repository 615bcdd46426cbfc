/- The contracts of the functions that the law reaches, of the given program. -/
import Derived.Test.YtccjacnppmciaaaGreatDoorP1
import Derived.Test.YtccjacnppmciaaaGreatDoorP2
import Derived.Test.YtccjacnppmciaaaGreatDoorP4
import Derived.Test.YtccjacnppmciaaaGreatDoorP5
import Derived.Test.YtccjacnppmciaaaGreatDoorKAM1
import Derived.Test.YtccjacnppmciaaaGreatDoorKAM2
import Derived.Test.YtccjacnppmciaaaGreatDoorNwHas
import Derived.Test.YtccjacnppmciaaaGreatDoorProg
set_option linter.all false
namespace Go.Nw.AM
open Go.Proofs Go.Nw.Acc
set_option maxRecDepth 100000
theorem u66:u4h (b0n Tryz.prog):=fun r h=>by cases h; exact ⟨l7k,b0j,b0e _⟩
abbrev OP:Orac:=b0n Tryz.prog
theorem ha {n:String} {x:XFunc} (k:Nat) {f0:Func} (bf:List Nat) (fz:List (Nat × Nat)) (hk:Tryz.prog.funcs[k]?=some f0) (hu:((b2k n).isNone && Tryz.prog.funcs.toList.zipIdx.all fun p=>p.1.name != n || p.2 == k)=true:=by kernel_rfl) (hc:c6p Tryz.prog bf fz f0=some x:=by kernel_rfl):Has OP n x:=b00 k bf fz hk hu hc
theorem j27:Has OP "newel/newelref04.from" x_r04_from:=ha 83 [] [] Tryz.func83
theorem d6i:c5r OP:=b4p j27
theorem j3a:Has OP "newel/newelref04.names" x_r04_names:=ha 84 [1,37,30,21,14,10,7] [] Tryz.func84
theorem g8a:d0i OP:=d3f j3a
theorem j23:Has OP "newel/newelref04.Word" x_r04_Word:=ha 85 [] [] Tryz.func85
theorem g78:d0g OP:=d3d j23
theorem j25:Has OP "newel/newelref04.condition" x_r04_condition:=ha 57 [3,100,85,70,62,48] [] Tryz.func57
theorem d6g:c5p OP:=c3m j25 d6i
theorem j2v:Has OP "newel/newelref04.Check" x_r04_Check:=ha 56 [1,177,135,126,119,113,104,98,92,83,77,35,28,22,16,11] [] Tryz.func56
theorem d6b:c5k OP:=c3i j2v d6i g8a g78 d6g
theorem j2w:Has OP "newel/newelref04.CheckConds" x_r04_CheckConds:=ha 27 [2] [] Tryz.func27
theorem d6c:c5l OP:=c3j j2w d6b d6g
theorem u8c:Has OP "newel/newelref10.from" x_r10_from:=ha 53 [] [] Tryz.func53
theorem u4x:u1m OP:=s8v u8c
theorem u75:Has OP "newel/newelref10.CheckAccident" x_r10_CheckAccident:=ha 25 [1,63,49,43,38,34,27,19,12,8] [] Tryz.func25
theorem u4v:u1k OP:=u0s u75 d6c u4x
theorem u72:Has OP "newel/newellaw10.Deep" x_l10_Deep:=ha 9 [1,49,44,35,34,26,25,18,17,13,12,5] [] Tryz.func9
theorem u62:u2n OP:=u3o u72 u4v
theorem u79:Has OP "newel/newelref10.IsTheory" x_r10_IsTheory:=ha 26 [3,30,25,16,12,8,5,2,32,19,18] [] Tryz.func26
theorem u7a:u2s OP:=u3t u79 u4x
theorem j3l:Has OP "newel/situation.within" x_situation_within:=ha 97 [] [] Tryz.func97
theorem d6l:c5u OP:=b4q j3l
theorem d8e:Has OP "slices.Concat[[]string,string]" x_slices_Concat___string_string_:=ha 131 [] [] Tryz.func131
theorem d8f:Has OP "slices.Grow[[]string,string]" x_slices_Grow___string_string_:=ha 137 [] [] Tryz.func137
theorem g8l:d0t OP:=d3q d8e d8f
theorem j3j:Has OP "newel/situation.names" x_situation_names:=ha 116 [1,27,14,10,8] [] Tryz.func116
theorem g8j:d0r OP:=d3o j3j g8l
theorem g8m:d0u OP:=d3r d8e d8f
theorem j3k:Has OP "newel/situation.names" x_situation_names:=ha 116 [1,27,14,10,8] [] Tryz.func116
theorem g8k:d0s OP:=d3p j3k g8m
theorem g8i:d0q OP:=d3n g8j g8k
theorem j3f:Has OP "newel/situation.Plain" x_situation_Plain:=ha 117 [] [] Tryz.func117
theorem g8e:d0m OP:=d3j j3f
theorem j3g:Has OP "newel/situation.Reserved" x_situation_Reserved:=ha 118 [] [] Tryz.func118
theorem g8f:d0n OP:=d3k j3g
theorem j3i:Has OP "newel/situation.named" x_situation_named:=ha 98 [1] [] Tryz.func98
theorem g8h:d0p OP:=d3m j3i g8i g8e g8f
theorem j3r:Has OP "slices.IndexFunc[newel/api.Term,newel/api.Literal]" x_slices_IndexFunc_api_Term_api_Literal_:=ha 104 [] [] Tryz.func104
theorem g8r:d0z OP:=d3w j3r
theorem j3o:Has OP "slices.ContainsFunc[newel/api.Term,newel/api.Literal]" x_slices_ContainsFunc_api_Term_api_Literal_:=ha 74 [] [] Tryz.func74
theorem d1a:c1o OP:=b8n j3o g8r
theorem j3h:Has OP "newel/situation.asks" x_situation_asks:=ha 76 [3,66,58,52,44,35,31,23,17,9,5,2,60,46,33,25,11] [] Tryz.func76
theorem g8g:d0o OP:=d3l j3h d6l
theorem j3c:Has OP "newel/situation.Asked$1" x_situation_AskedD1:=ha 75 [2] [] Tryz.func75
theorem g8b:d0j OP:=d3g j3c g8g
theorem j3b:Has OP "newel/situation.Asked" x_situation_Asked:=ha 47 [2] [] Tryz.func47
theorem d6k:c5t OP:=c3p j3b d1a g8b
theorem j3e:Has OP "newel/situation.Check$1" x_situation_CheckD1:=ha 99 [1,3] [] Tryz.func99
theorem g8d:d0l OP:=d3i j3e
theorem j3d:Has OP "newel/situation.Check" x_situation_Check:=ha 69 [1,138,94,85,76,68,59,47,37,30,24,18,13] [] Tryz.func69
theorem g8c:d0k OP:=d3h j3d d6l g8h d6k d1a g8d
theorem u71:Has OP "newel/faults.within" x_faults_within:=ha 49 [] [] Tryz.func49
theorem u4u:u1j OP:=s84 u71
theorem u7v:Has OP "newel/faults.accident" x_faults_accident:=ha 35 [1,62,42,38,34,27,20,16,14,8] [] Tryz.func35
theorem u6y:u2l OP:=u3k u7v g8c d6k u4u
theorem u70:Has OP "newel/faults.theory" x_faults_theory:=ha 48 [3,30,25,16,12,8,5,2,32,19,18] [] Tryz.func48
theorem u61:u2m OP:=u3n u70 u4u
theorem u7w:Has OP "newel/faults.both" x_faults_both:=ha 42 [3,2] [] Tryz.func42
theorem u4s:u1i OP:=u0q u7w u6y u61
theorem j2a:Has OP "(newel/situation.Plant).All" x__situation_Plant__All:=ha 100 [1,4,3] [] Tryz.func100
theorem g69:c9y OP:=d2w j2a
theorem j3q:Has OP "slices.IndexFunc[newel/api.Cond,newel/api.Term]" x_slices_IndexFunc_api_Cond_api_Term_:=ha 105 [] [] Tryz.func105
theorem g8q:d0y OP:=d3v j3q
theorem j3n:Has OP "slices.ContainsFunc[newel/api.Cond,newel/api.Term]" x_slices_ContainsFunc_api_Cond_api_Term_:=ha 78 [] [] Tryz.func78
theorem g8o:d0w OP:=d3t j3n g8q
theorem j2g:Has OP "(newel/situation.Plant).literal" x__situation_Plant__literal:=ha 81 [6,42,32,25,24,5,53,47,34,27,22,15,10,4,40,39] [] Tryz.func81
theorem g7e:c93 OP:=d21 j2g
theorem j2e:Has OP "(newel/situation.Plant).Holds$1$1" x__situation_Plant__HoldsD1D1:=ha 80 [4] [] Tryz.func80
theorem g7c:c91 OP:=d2z j2e g7e
theorem j2d:Has OP "(newel/situation.Plant).Holds$1" x__situation_Plant__HoldsD1:=ha 79 [] [] Tryz.func79
theorem g7b:c90 OP:=d2y j2d d1a g7c
theorem j2c:Has OP "(newel/situation.Plant).Holds" x__situation_Plant__Holds:=ha 52 [7,6,4] [] Tryz.func52
theorem c6m:b89 OP:=b52 j2c g8o g7b
theorem j2b:Has OP "(newel/situation.Plant).Allowed" x__situation_Plant__Allowed:=ha 101 [6,4] [] Tryz.func101
theorem g7a:c9z OP:=d2x j2b c6m
theorem j2h:Has OP "(newel/situation.Plant).set" x__situation_Plant__set:=ha 106 [4,29,13,8,3,27,26] [] Tryz.func106
theorem g7f:c94 OP:=d22 j2h
theorem j2f:Has OP "(newel/situation.Plant).Step" x__situation_Plant__Step:=ha 90 [3,12,11] [] Tryz.func90
theorem g7d:c92 OP:=d20 j2f c6m g7f
theorem u7r:Has OP "(*newel/faults.inquiry).heard" x___faults_inquiry__heard:=ha 103 [] [] Tryz.func103
theorem u6t:u1g OP:=u3f u7r
theorem u7s:Has OP "(*newel/faults.inquiry).seen" x___faults_inquiry__seen:=ha 102 [4,96,83,69,52,40,33,12] [] Tryz.func102
theorem u6u:u1h OP:=u3g u7s c6m
theorem u7q:Has OP "(*newel/faults.inquiry).course" x___faults_inquiry__course:=ha 73 [3,87,84,77,51,49,39,8] [(1000009,2000102),(1000012,2000103),(1000012,2000073)] Tryz.func73
theorem u6v:u2i OP:=u3h u7q g69 g7a g7d u6t u6u
theorem u7y:Has OP "newel/faults.search$1" x_faults_searchD1:=ha 71 [] [] Tryz.func71
theorem u6z:s98 OP:=u3l u7y
theorem u7z:Has OP "newel/faults.search$2" x_faults_searchD2:=ha 72 [4] [] Tryz.func72
theorem u60:z1x OP:=u3m u7z
theorem u7x:Has OP "newel/faults.search" x_faults_search:=ha 37 [4,3,12] [(1000007,3000000),(1000009,2000073)] Tryz.func37
theorem u4t:s97 OP:=u0r u7x u6v u6z u60
theorem u7u:Has OP "newel/faults.Possible" x_faults_Possible:=ha 15 [3,2] [] Tryz.func15
theorem u6x:u2k OP:=u3j u7u u4s u4t
theorem u7t:Has OP "newel/faults.Course" x_faults_Course:=ha 17 [3,2] [] Tryz.func17
theorem u6w:u2j OP:=u3i u7t u4s u4t
theorem K8j:Has OP "newel/faults.theories" x_faults_theories:=ha 36 [1] [] Tryz.func36
theorem K77:K6c OP:=K6r K8j u6y u4t
theorem j29:Has OP "newel/newelref04.literal" x_r04_literal:=ha 62 [7,54,47,35,28,23,15,10,5,42,33,26,25,4,40] [] Tryz.func62
theorem g79:d0h OP:=d3e j29
theorem j20:Has OP "newel/newelref04.Holds" x_r04_Holds:=ha 31 [5,4] [] Tryz.func31
theorem c6n:b9a OP:=s3y j20 g79
theorem j2t:Has OP "newel/newelref04.Allows" x_r04_Allows:=ha 58 [5,4] [] Tryz.func58
theorem d6a:c5j OP:=c3h j2t c6n
theorem j2z:Has OP "newel/newelref04.Heard" x_r04_Heard:=ha 61 [] [] Tryz.func61
theorem g76:d0e OP:=d3b j2z
theorem u78:Has OP "newel/newelref10.Heard" x_r10_Heard:=ha 30 [3,20,18,12,7] [] Tryz.func30
theorem u69:u2r OP:=u3s u78 g76
theorem j2j:Has OP "newel/control.Check" x_control_Check:=ha 86 [1] [] Tryz.func86
theorem g7n:c96 OP:=d24 j2j g8c
theorem j2o:Has OP "newel/control.of" x_control_of:=ha 87 [1] [] Tryz.func87
theorem d58:c5h OP:=c3f j2o
theorem o9d:Has OP "(newel/situation.Plant).Place" x__situation_Plant__Place:=ha 88 [3,32,8,2,35,34,21,20,16,15] [] Tryz.func88
theorem o87:o8b OP:=o8g o9d d6l
theorem p3w:Has OP "(newel/situation.Plant).Input" x__situation_Plant__Input:=ha 89 [2] [] Tryz.func89
theorem p3o:p2o OP:=p2y p3w g69 d6l
theorem p3y:Has OP "newel/control.Step" x_control_Step:=ha 59 [4,3] [] Tryz.func59
theorem p3q:p2q OP:=p20 p3y g7n d58 o87 p3o g7d
theorem o9g:Has OP "newel/newelref04.IsPlace" x_r04_IsPlace:=ha 60 [3,32,31,7,2,24,20,9] [] Tryz.func60
theorem o9a:o8d OP:=o8i o9g d6i
theorem z3h:Has OP "newel/newellaw10.happened" x_l10_happened:=ha 28 [4,3,113,100,94,83,67,61,54,46,45,20] [] Tryz.func28
theorem z2v:z13 OP:=z1y z3h d6a u69 p3q o9a c6n
theorem x9n:Has OP "newel/newelref10.Less" x_r10_Less:=ha 32 [] [] Tryz.func32
theorem x9l:x83 OP:=x85 x9n
theorem L0s:Has OP "newel/newellaw10.FaultsElse" x_l10_FaultsElse:=ha 8 [3,107,100,98,91,59,37,30,22,2] [] Tryz.func8
theorem L0p:L0n OP:=L0u L0s u62 u4v u7a u66 u6x u6w K77 z2v x9l
end Go.Nw.AM
