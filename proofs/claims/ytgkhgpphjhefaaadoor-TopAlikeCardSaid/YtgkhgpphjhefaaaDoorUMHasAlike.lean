/- The contracts of the functions that the law reaches, of the given program. -/
import Derived.Test.YtgkhgpphjhefaaaDoorP1
import Derived.Test.YtgkhgpphjhefaaaDoorP2
import Derived.Test.YtgkhgpphjhefaaaDoorKH1
import Derived.Test.YtgkhgpphjhefaaaDoorP3
import Derived.Test.YtgkhgpphjhefaaaDoorP4
import Derived.Test.YtgkhgpphjhefaaaDoorKUM1
import Derived.Test.YtgkhgpphjhefaaaDoorKUM2
import Derived.Test.YtgkhgpphjhefaaaDoorNwHas
import Derived.Test.YtgkhgpphjhefaaaDoorProg
set_option linter.all false
namespace Go.Nw.UM
open Go.Proofs Go.Nw.Tp2
set_option maxRecDepth 100000
theorem x9k:L16 (b0n Tryd.prog):=fun r h=>by cases h; exact ⟨l7k,b0j,b0e _⟩
abbrev OP:Orac:=b0n Tryd.prog
theorem ha {n:String} {x:XFunc} (k:Nat) {f0:Func} (bf:List Nat) (fz:List (Nat × Nat)) (hk:Tryd.prog.funcs[k]?=some f0) (hu:((b2k n).isNone && Tryd.prog.funcs.toList.zipIdx.all fun p=>p.1.name != n || p.2 == k)=true:=by kernel_rfl) (hc:c6p Tryd.prog bf fz f0=some x:=by kernel_rfl):Has OP n x:=b00 k bf fz hk hu hc
theorem j27:Has OP "newel/newelref04.from" x_r04_from:=ha 40 [] [] Tryd.func40
theorem d6i:c5r OP:=b4p j27
theorem j3a:Has OP "newel/newelref04.names" x_r04_names:=ha 88 [1,37,30,21,14,10,7] [] Tryd.func88
theorem g8a:d0i OP:=d3f j3a
theorem j23:Has OP "newel/newelref04.Word" x_r04_Word:=ha 89 [] [] Tryd.func89
theorem g78:d0g OP:=d3d j23
theorem j25:Has OP "newel/newelref04.condition" x_r04_condition:=ha 62 [3,100,85,70,62,48] [] Tryd.func62
theorem d6g:c5p OP:=c3m j25 d6i
theorem j2v:Has OP "newel/newelref04.Check" x_r04_Check:=ha 61 [1,177,135,126,119,113,104,98,92,83,77,35,28,22,16,11] [] Tryd.func61
theorem d6b:c5k OP:=c3i j2v d6i g8a g78 d6g
theorem j2w:Has OP "newel/newelref04.CheckConds" x_r04_CheckConds:=ha 26 [2] [] Tryd.func26
theorem d6c:c5l OP:=c3j j2w d6b d6g
theorem u8c:Has OP "newel/newelref10.from" x_r10_from:=ha 29 [] [] Tryd.func29
theorem u4x:u1m OP:=s8v u8c
theorem u75:Has OP "newel/newelref10.CheckAccident" x_r10_CheckAccident:=ha 9 [1,63,49,43,38,34,27,19,12,8] [] Tryd.func9
theorem u4v:u1k OP:=u0s u75 d6c u4x
theorem u72:Has OP "newel/newellaw10.Deep" x_l10_Deep:=ha 8 [1,49,44,35,34,26,25,18,17,13,12,5] [] Tryd.func8
theorem u62:u2n OP:=u3o u72 u4v
theorem u79:Has OP "newel/newelref10.IsTheory" x_r10_IsTheory:=ha 17 [3,30,25,16,12,8,5,2,32,19,18] [] Tryd.func17
theorem u7a:u2s OP:=u3t u79 u4x
theorem L2q:Has OP "newel/neweltop.shown" x_neweltop_shown:=ha 23 [] [] Tryd.func23
theorem L2n:L1z OP:=L1w L2q
theorem j3l:Has OP "newel/situation.within" x_situation_within:=ha 70 [] [] Tryd.func70
theorem d6l:c5u OP:=b4q j3l
theorem d8e:Has OP "slices.Concat[[]string,string]" x_slices_Concat___string_string_:=ha 122 [] [] Tryd.func122
theorem d8f:Has OP "slices.Grow[[]string,string]" x_slices_Grow___string_string_:=ha 124 [] [] Tryd.func124
theorem g8l:d0t OP:=d3q d8e d8f
theorem j3j:Has OP "newel/situation.names" x_situation_names:=ha 114 [1,27,14,10,8] [] Tryd.func114
theorem g8j:d0r OP:=d3o j3j g8l
theorem g8m:d0u OP:=d3r d8e d8f
theorem j3k:Has OP "newel/situation.names" x_situation_names:=ha 114 [1,27,14,10,8] [] Tryd.func114
theorem g8k:d0s OP:=d3p j3k g8m
theorem g8i:d0q OP:=d3n g8j g8k
theorem j3f:Has OP "newel/situation.Plain" x_situation_Plain:=ha 115 [] [] Tryd.func115
theorem g8e:d0m OP:=d3j j3f
theorem j3g:Has OP "newel/situation.Reserved" x_situation_Reserved:=ha 116 [] [] Tryd.func116
theorem g8f:d0n OP:=d3k j3g
theorem j3i:Has OP "newel/situation.named" x_situation_named:=ha 97 [1] [] Tryd.func97
theorem g8h:d0p OP:=d3m j3i g8i g8e g8f
theorem j3r:Has OP "slices.IndexFunc[newel/api.Term,newel/api.Literal]" x_slices_IndexFunc_api_Term_api_Literal_:=ha 101 [] [] Tryd.func101
theorem g8r:d0z OP:=d3w j3r
theorem j3o:Has OP "slices.ContainsFunc[newel/api.Term,newel/api.Literal]" x_slices_ContainsFunc_api_Term_api_Literal_:=ha 75 [] [] Tryd.func75
theorem d1a:c1o OP:=b8n j3o g8r
theorem j3h:Has OP "newel/situation.asks" x_situation_asks:=ha 77 [3,66,58,52,44,35,31,23,17,9,5,2,60,46,33,25,11] [] Tryd.func77
theorem g8g:d0o OP:=d3l j3h d6l
theorem j3c:Has OP "newel/situation.Asked$1" x_situation_AskedD1:=ha 76 [2] [] Tryd.func76
theorem g8b:d0j OP:=d3g j3c g8g
theorem j3b:Has OP "newel/situation.Asked" x_situation_Asked:=ha 44 [2] [] Tryd.func44
theorem d6k:c5t OP:=c3p j3b d1a g8b
theorem j3e:Has OP "newel/situation.Check$1" x_situation_CheckD1:=ha 98 [1,3] [] Tryd.func98
theorem g8d:d0l OP:=d3i j3e
theorem j3d:Has OP "newel/situation.Check" x_situation_Check:=ha 69 [1,138,94,85,76,68,59,47,37,30,24,18,13] [] Tryd.func69
theorem g8c:d0k OP:=d3h j3d d6l g8h d6k d1a g8d
theorem j2j:Has OP "newel/control.Check" x_control_Check:=ha 35 [1] [] Tryd.func35
theorem g7n:c96 OP:=d24 j2j g8c
theorem j2n:Has OP "newel/control.check" x_control_check:=ha 50 [2] [] Tryd.func50
theorem d57:c5g OP:=c3e j2n g7n d6k
theorem r35:Has OP "slices.Equal[[]string,string]" x_slices_Equal___string_string_:=ha 56 [] [] Tryd.func56
theorem r3q:r13 OP:=r1r r35
theorem j2o:Has OP "newel/control.of" x_control_of:=ha 36 [1] [] Tryd.func36
theorem d58:c5h OP:=c3f j2o
theorem j2a:Has OP "(newel/situation.Plant).All" x__situation_Plant__All:=ha 57 [1,4,3] [] Tryd.func57
theorem g69:c9y OP:=d2w j2a
theorem j3q:Has OP "slices.IndexFunc[newel/api.Cond,newel/api.Term]" x_slices_IndexFunc_api_Cond_api_Term_:=ha 102 [] [] Tryd.func102
theorem g8q:d0y OP:=d3v j3q
theorem j3n:Has OP "slices.ContainsFunc[newel/api.Cond,newel/api.Term]" x_slices_ContainsFunc_api_Cond_api_Term_:=ha 79 [] [] Tryd.func79
theorem g8o:d0w OP:=d3t j3n g8q
theorem j2g:Has OP "(newel/situation.Plant).literal" x__situation_Plant__literal:=ha 82 [6,42,32,25,24,5,53,47,34,27,22,15,10,4,40,39] [] Tryd.func82
theorem g7e:c93 OP:=d21 j2g
theorem j2e:Has OP "(newel/situation.Plant).Holds$1$1" x__situation_Plant__HoldsD1D1:=ha 81 [4] [] Tryd.func81
theorem g7c:c91 OP:=d2z j2e g7e
theorem j2d:Has OP "(newel/situation.Plant).Holds$1" x__situation_Plant__HoldsD1:=ha 80 [] [] Tryd.func80
theorem g7b:c90 OP:=d2y j2d d1a g7c
theorem j2c:Has OP "(newel/situation.Plant).Holds" x__situation_Plant__Holds:=ha 49 [7,6,4] [] Tryd.func49
theorem c6m:b89 OP:=b52 j2c g8o g7b
theorem j2b:Has OP "(newel/situation.Plant).Allowed" x__situation_Plant__Allowed:=ha 58 [6,4] [] Tryd.func58
theorem g7a:c9z OP:=d2x j2b c6m
theorem j2h:Has OP "(newel/situation.Plant).set" x__situation_Plant__set:=ha 71 [4,29,13,8,3,27,26] [] Tryd.func71
theorem g7f:c94 OP:=d22 j2h
theorem j2f:Has OP "(newel/situation.Plant).Step" x__situation_Plant__Step:=ha 39 [3,12,11] [] Tryd.func39
theorem g7d:c92 OP:=d20 j2f c6m g7f
theorem r2w:Has OP "slices.Clone[[]int,int]" x_slices_Clone___int_int_:=ha 59 [] [] Tryd.func59
theorem r3p:r12 OP:=r2d r2w
theorem r31:Has OP "newel/control.Same" x_control_Same:=ha 24 [4,79,46,39,3,71,44,37] [(27,0),(63,0)] Tryd.func24
theorem r3l:r1z OP:=r1p r31 r2w g7n d57 r3q d58 g69 g7a g7d r3p
theorem u71:Has OP "newel/faults.within" x_faults_within:=ha 46 [] [] Tryd.func46
theorem u4u:u1j OP:=s84 u71
theorem u7v:Has OP "newel/faults.accident" x_faults_accident:=ha 43 [1,62,42,38,34,27,20,16,14,8] [] Tryd.func43
theorem u6y:u2l OP:=u3k u7v g8c d6k u4u
theorem u70:Has OP "newel/faults.theory" x_faults_theory:=ha 45 [3,30,25,16,12,8,5,2,32,19,18] [] Tryd.func45
theorem u61:u2m OP:=u3n u70 u4u
theorem u7w:Has OP "newel/faults.both" x_faults_both:=ha 41 [3,2] [] Tryd.func41
theorem u4s:u1i OP:=u0q u7w u6y u61
theorem u7r:Has OP "(*newel/faults.inquiry).heard" x___faults_inquiry__heard:=ha 100 [] [] Tryd.func100
theorem u6t:u1g OP:=u3f u7r
theorem u7s:Has OP "(*newel/faults.inquiry).seen" x___faults_inquiry__seen:=ha 99 [4,96,83,69,52,40,33,12] [] Tryd.func99
theorem u6u:u1h OP:=u3g u7s c6m
theorem u7q:Has OP "(*newel/faults.inquiry).course" x___faults_inquiry__course:=ha 74 [3,87,84,77,51,49,39,8] [(1000009,2000099),(1000012,2000100),(1000012,2000074)] Tryd.func74
theorem u6v:u2i OP:=u3h u7q g69 g7a g7d u6t u6u
theorem u7y:Has OP "newel/faults.search$1" x_faults_searchD1:=ha 72 [] [] Tryd.func72
theorem u6z:s98 OP:=u3l u7y
theorem u7z:Has OP "newel/faults.search$2" x_faults_searchD2:=ha 73 [4] [] Tryd.func73
theorem u60:z1x OP:=u3m u7z
theorem u7x:Has OP "newel/faults.search" x_faults_search:=ha 42 [4,3,12] [(1000007,3000000),(1000009,2000074)] Tryd.func42
theorem u4t:s97 OP:=u0r u7x u6v u6z u60
theorem u7u:Has OP "newel/faults.Possible" x_faults_Possible:=ha 14 [3,2] [] Tryd.func14
theorem u6x:u2k OP:=u3j u7u u4s u4t
theorem u7t:Has OP "newel/faults.Course" x_faults_Course:=ha 15 [3,2] [] Tryd.func15
theorem u6w:u2j OP:=u3i u7t u4s u4t
theorem K8j:Has OP "newel/faults.theories" x_faults_theories:=ha 60 [1] [] Tryd.func60
theorem K77:K6c OP:=K6r K8j u6y u4t
theorem L2p:Has OP "newel/neweltop.TopAlike" x_neweltop_TopAlike:=ha 6 [5,145,138,120,113,80,74,67,61,40,38,36,32,30,28,4,3] [] Tryd.func6
theorem L2m:L15 OP:=L2s L2p u62 u4v u7a L2n x9k r3l u6x u6w K77
end Go.Nw.UM
