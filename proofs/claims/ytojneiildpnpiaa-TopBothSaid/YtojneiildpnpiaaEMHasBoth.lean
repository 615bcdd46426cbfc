/- The contracts of the functions that the law reaches, of the given program. -/
import Derived.Test.YtojneiildpnpiaaP1
import Derived.Test.YtojneiildpnpiaaP6
import Derived.Test.YtojneiildpnpiaaKEM1
import Derived.Test.YtojneiildpnpiaaNwHas
import Derived.Test.YtojneiildpnpiaaProg
set_option linter.all false
namespace Go.Nw.EM
open Go.Proofs Go.Nw.Tp6
set_option maxRecDepth 100000
theorem x9k:L16 (b0n Try.prog):=fun r h=>by cases h; exact ⟨l7k,b0j,b0e _⟩
abbrev OP:Orac:=b0n Try.prog
theorem ha {n:String} {x:XFunc} (k:Nat) {f0:Func} (bf:List Nat) (fz:List (Nat × Nat)) (hk:Try.prog.funcs[k]?=some f0) (hu:((b2k n).isNone && Try.prog.funcs.toList.zipIdx.all fun p=>p.1.name != n || p.2 == k)=true:=by kernel_rfl) (hc:c6p Try.prog bf fz f0=some x:=by kernel_rfl):Has OP n x:=b00 k bf fz hk hu hc
theorem G9u:Has OP "newel/halls.in" x_halls_in:=ha 47 [3,11,5] [] Try.func47
theorem G4z:G0m OP:=E8n G9u
theorem G91:Has OP "newel/halls.span" x_halls_span:=ha 60 [3,19,14,12,8] [] Try.func60
theorem G41:G0o OP:=E8p G91
theorem G9v:Has OP "newel/halls.isComb" x_halls_isComb:=ha 43 [2,33,6] [] Try.func43
theorem G8o:G1y OP:=G3u G9v G4z G41
theorem H0b:Has OP "slices.IndexFunc[[]newel/api.Train,newel/api.Train]" x_slices_IndexFunc___api_Train_api_Train_:=ha 61 [] [] Try.func61
theorem G81:G19 OP:=G32 H0b
theorem H0a:Has OP "slices.ContainsFunc[[]newel/api.Train,newel/api.Train]" x_slices_ContainsFunc___api_Train_api_Train_:=ha 44 [] [] Try.func44
theorem G80:G18 OP:=G31 H0a G81
theorem G9w:Has OP "newel/halls.isTrain" x_halls_isTrain:=ha 46 [3,43,36,8,2,38,22] [] Try.func46
theorem G8p:G1z OP:=G3v G9w G41
theorem G9m:Has OP "newel/halls.Check$1" x_halls_CheckD1:=ha 45 [2] [] Try.func45
theorem G8i:G1s OP:=G3p G9m G8p
theorem G9l:Has OP "newel/halls.Check" x_halls_Check:=ha 22 [1,95,77,67,53,49,38,33,27,21,15,10,6] [] Try.func22
theorem G4x:G0k OP:=E97 G9l G8o G80 G8i G4z
theorem j3p:Has OP "slices.IndexFunc[[]int,int]" x_slices_IndexFunc___int_int_:=ha 56 [] [] Try.func56
theorem g8p:d0x OP:=d3u j3p
theorem j3m:Has OP "slices.ContainsFunc[[]int,int]" x_slices_ContainsFunc___int_int_:=ha 30 [] [] Try.func30
theorem g8n:d0v OP:=d3s j3m g8p
theorem G9t:Has OP "newel/halls.check$1" x_halls_checkD1:=ha 31 [] [] Try.func31
theorem G8n:G1x OP:=G3t G9t
theorem G9s:Has OP "newel/halls.check" x_halls_check:=ha 15 [3,17] [] Try.func15
theorem G4y:G0l OP:=E98 G9s G4x g8n G8n
theorem G90:Has OP "newel/halls.rates" x_halls_rates:=ha 24 [2,48,40,29,24,12,9] [] Try.func24
theorem G8r:G11 OP:=G3x G90
theorem N5p:Has OP "newel/halls.open" x_halls_open:=ha 17 [1,4] [(9,0)] Try.func17
theorem N4k:N1r OP:=N15 N5p G8r
theorem G9r:Has OP "newel/halls.brought" x_halls_brought:=ha 32 [4,13] [] Try.func32
theorem G8m:G1w OP:=G3s G9r
theorem G9k:Has OP "(*newel/halls.bound).passes" x___halls_bound__passes:=ha 33 [] [] Try.func33
theorem G8h:G1r OP:=G3o G9k
theorem N5o:Has OP "newel/halls.bounds" x_halls_bounds:=ha 16 [2,120,49,36,31,26,16] [(40,9),(70,7)] Try.func16
theorem N4j:N1q OP:=N14 N5o G8m G8h
theorem G9o:Has OP "newel/halls.Most" x_halls_Most:=ha 6 [2] [] Try.func6
theorem G8k:G1u OP:=G1a G9o G4y N4k N4j
theorem N5u:Has OP "slices.Index[[]int,int]" x_slices_Index___int_int_:=ha 54 [] [] Try.func54
theorem N4p:N1t OP:=N19 N5u
theorem N5t:Has OP "slices.Contains[[]int,int]" x_slices_Contains___int_int_:=ha 28 [] [] Try.func28
theorem N4o:N0o OP:=N18 N5t N4p
theorem N5r:Has OP "math/bits.Mul64" x_math_bits_Mul64:=ha 76 [] [] Try.func76
theorem N4m:N1s OP:=N17 N5r
theorem N5q:Has OP "math/bits.Mul" x_math_bits_Mul:=ha 71 [] [] Try.func71
theorem N4l:N1a OP:=N16 N5q N4m
theorem C2c:Has OP "newel/ways.within" x_ways_within:=ha 35 [] [] Try.func35
theorem B9w:B8j OP:=c15 C2c
theorem C2a:Has OP "newel/ways.passage" x_ways_passage:=ha 57 [2,68,64,58,54,48,44,38,33,27,22,20,12,5] [] Try.func57
theorem C1t:B96 OP:=C0k C2a B9w
theorem C17:Has OP "newel/ways.Check" x_ways_Check:=ha 34 [1,58,48,28,20,14,9] [] Try.func34
theorem C1r:B94 OP:=C0i C17 B9w C1t
theorem N5x:Has OP "newel/ways.crowd" x_ways_crowd:=ha 36 [2,19] [] Try.func36
theorem N4r:N1u OP:=N2b N5x B9w
theorem N5z:Has OP "newel/ways.leaving" x_ways_leaving:=ha 18 [4] [] Try.func18
theorem N4s:N1c OP:=N2c N5z C1r B9w N4r
theorem N5w:Has OP "newel/ways.Left" x_ways_Left:=ha 7 [4] [] Try.func7
theorem N5k:Has OP "(*newel/ways.net).join" x___ways_net__join:=ha 37 [9] [] Try.func37
theorem N5m:Has OP "(*newel/ways.net).node" x___ways_net__node:=ha 38 [] [] Try.func38
theorem N5y:Has OP "newel/ways.headings" x_ways_headings:=ha 39 [3,2] [] Try.func39
theorem N5j:Has OP "(*newel/ways.net).fill" x___ways_net__fill:=ha 20 [] [] Try.func20
theorem N5l:Has OP "(*newel/ways.net).levels" x___ways_net__levels:=ha 40 [] [(1000006,3000001)] Try.func40
theorem N5n:Has OP "(*newel/ways.net).push" x___ways_net__push:=ha 41 [] [] Try.func41
theorem N5v:Has OP "slices.Repeat[[]int,int]" x_slices_Repeat___int_int_:=ha 59 [] [] Try.func59
theorem N4q:N1b OP:=N2a N5w N5k N5m N5y N5j N5l N5n N5v N4o N4l N4s
theorem N5s:Has OP "newel/neweltop.TopBoth" x_neweltop_TopBoth:=ha 3 [2,139,132,123,121,119,101,98,78,75,73,67,64,62,56,51,46,41,28,23,18,14] [(1000003,61),(1000003,71),(1000005,84),(1000005,87),(1000005,89),(1000007,100)] Try.func3
theorem N4n:N2w OP:=N6i N5s x9k G8k N4q
end Go.Nw.EM
