/- Plain laws on the models. -/
import Derived.Test.YtinmifhfkkjccaaNwTp3Src
import Derived.Test.YtinmifhfkkjccaaNwCall
import Derived.Test.YtinmifhfkkjccaaNwRun2
import Derived.Test.YtinmifhfkkjccaaNwHas
import Derived.Test.YtinmifhfkkjccaaProg
set_option linter.all false
namespace Go.Nw.XM
instance cfg : Cfg := ⟨fun _ => none, fun f => (["(newel/situation.Plant).set", "slices.Reverse[[]int,int]", "(*newel/drive.motion).with", "(*newel/drive.motion).extreme"] : List String).contains f⟩
end Go.Nw.XM
namespace Go.Nw.XM
open Go.Proofs Go.Nw.Tp3
set_option maxRecDepth 100000
def gy (o : Option XFunc) : XFunc := match o with | some x => x | none => ⟨0, [], .skip⟩
noncomputable def y_neweltop_measures : XFunc := gy (c6p Try.prog [] [] Try.f8)
noncomputable def y_l01_Example : XFunc := gy (c6p Try.prog [] [] Try.f24)
noncomputable def y_drive_Distance : XFunc := gy (c6p Try.prog [3, 2] [(1000003, 4), (1000003, 5), (1000006, 4), (1000006, 5), (14, 7), (14, 8), (14, 100), (14, 101), (1000007, 7), (1000007, 8), (1000007, 28), (1000007, 30), (1000007, 33), (1000007, 36)] Try.f9)
noncomputable def y_l03_Example : XFunc := gy (c6p Try.prog [] [] Try.f25)
noncomputable def y_circuit_Pairs : XFunc := gy (c6p Try.prog [1, 26, 17] [] Try.f26)
noncomputable def y_drive_checkStop : XFunc := gy (c6p Try.prog [3, 43, 38, 33, 32, 27, 26, 24, 23, 18, 17, 11, 2, 45] [] Try.f27)
noncomputable def y_drive_run : XFunc := gy (c6p Try.prog [4, 14, 11, 3] [] Try.f28)
noncomputable def y_circuit_Critical : XFunc := gy (c6p Try.prog [1, 12] [] Try.f47)
noncomputable def y_slices_Contains___int_int_ : XFunc := gy (c6p Try.prog [] [] Try.f48)
noncomputable def y_circuit_weak : XFunc := gy (c6p Try.prog [2, 6] [] Try.f49)
noncomputable def y_drive_Check : XFunc := gy (c6p Try.prog [1, 41, 36, 29, 22, 15, 10, 6] [] Try.f50)
noncomputable def y_drive_to : XFunc := gy (c6p Try.prog [] [] Try.f51)
noncomputable def y_drive_in : XFunc := gy (c6p Try.prog [3, 11, 5] [] Try.f31)
noncomputable def y___drive_motion__extreme : XFunc := gy (c6p Try.prog [] [] Try.f52)
noncomputable def y_circuit_Check : XFunc := gy (c6p Try.prog [1, 93, 69, 50, 46, 41, 32, 27, 22, 17, 13, 9] [] Try.f69)
noncomputable def y_slices_Index___int_int_ : XFunc := gy (c6p Try.prog [] [] Try.f70)
noncomputable def y__circuit_state__wire : XFunc := gy (c6p Try.prog [2, 7, 6] [] Try.f71)
noncomputable def y_drive_CheckD1 : XFunc := gy (c6p Try.prog [1, 8, 3] [] Try.f72)
noncomputable def y___drive_motion__with : XFunc := gy (c6p Try.prog [] [] Try.f32)
noncomputable def y_slices_Contains___bool_bool_ : XFunc := gy (c6p Try.prog [] [] Try.f86)
noncomputable def y_slices_ContainsFunc___int_int_ : XFunc := gy (c6p Try.prog [] [] Try.f29)
noncomputable def y_circuit_ascending : XFunc := gy (c6p Try.prog [] [] Try.f89)
noncomputable def y_circuit_CheckD1 : XFunc := gy (c6p Try.prog [] [] Try.f87)
noncomputable def y_circuit_CheckD2 : XFunc := gy (c6p Try.prog [] [] Try.f90)
noncomputable def y__circuit_state__conducts : XFunc := gy (c6p Try.prog [2, 25, 20, 19, 12, 5] [] Try.f91)
noncomputable def y__circuit_state__wireD1 : XFunc := gy (c6p Try.prog [] [] Try.f92)
noncomputable def y___drive_motion__grip : XFunc := gy (c6p Try.prog [] [] Try.f55)
noncomputable def y_drive_tick : XFunc := gy (c6p Try.prog [4, 24, 20, 16, 12] [] Try.f54)
noncomputable def y_slices_Index___bool_bool_ : XFunc := gy (c6p Try.prog [] [] Try.f100)
noncomputable def y_slices_IndexFunc___int_int_ : XFunc := gy (c6p Try.prog [] [] Try.f53)
noncomputable def y_circuit_isSet : XFunc := gy (c6p Try.prog [] [] Try.f88)
noncomputable def y_drive_ahead : XFunc := gy (c6p Try.prog [] [] Try.f73)
noncomputable def y_drive_floor : XFunc := gy (c6p Try.prog [] [] Try.f93)
noncomputable def tbl : List (String × XFunc) := [("newel/neweltop.measures", y_neweltop_measures), ("newel/newellaw01.Example", y_l01_Example), ("newel/drive.Distance", y_drive_Distance), ("newel/newellaw03.Example", y_l03_Example), ("newel/circuit.Pairs", y_circuit_Pairs), ("newel/drive.checkStop", y_drive_checkStop), ("newel/drive.run", y_drive_run), ("newel/circuit.Critical", y_circuit_Critical), ("slices.Contains[[]int,int]", y_slices_Contains___int_int_), ("newel/circuit.weak", y_circuit_weak), ("newel/drive.Check", y_drive_Check), ("newel/drive.to", y_drive_to), ("newel/drive.in", y_drive_in), ("(*newel/drive.motion).extreme", y___drive_motion__extreme), ("newel/circuit.Check", y_circuit_Check), ("slices.Index[[]int,int]", y_slices_Index___int_int_), ("(newel/circuit.state).wire", y__circuit_state__wire), ("newel/drive.Check$1", y_drive_CheckD1), ("(*newel/drive.motion).with", y___drive_motion__with), ("slices.Contains[[]bool,bool]", y_slices_Contains___bool_bool_), ("slices.ContainsFunc[[]int,int]", y_slices_ContainsFunc___int_int_), ("newel/circuit.ascending", y_circuit_ascending), ("newel/circuit.Check$1", y_circuit_CheckD1), ("newel/circuit.Check$2", y_circuit_CheckD2), ("(newel/circuit.state).conducts", y__circuit_state__conducts), ("(newel/circuit.state).wire$1", y__circuit_state__wireD1), ("(*newel/drive.motion).grip", y___drive_motion__grip), ("newel/drive.tick", y_drive_tick), ("slices.Index[[]bool,bool]", y_slices_Index___bool_bool_), ("slices.IndexFunc[[]int,int]", y_slices_IndexFunc___int_int_), ("newel/circuit.isSet", y_circuit_isSet), ("newel/drive.ahead", y_drive_ahead), ("newel/drive.floor", y_drive_floor)]
theorem l5b : (match c4q tbl 40 "newel/neweltop.measures" [] [] with | some ([.v (.bool true)], _) => true | _ => false) = true := by kernel_rfl
theorem hw {n : String} {x : XFunc} (k : Nat) {f0 : Func} (bf : List Nat) (fz : List (Nat × Nat)) (hk : Try.prog.funcs[k]? = some f0) (hu : ((b2k n).isNone && Try.prog.funcs.toList.zipIdx.all fun p => p.1.name != n || p.2 == k) = true := by kernel_rfl) (hc : c6p Try.prog bf fz f0 = some x := by kernel_rfl) : Has (b0n Try.prog) n x := b00 k bf fz hk hu hc
theorem y0r : Has (b0n Try.prog) "newel/neweltop.measures" y_neweltop_measures := hw 8 [] [] Try.func8
theorem y0p : Has (b0n Try.prog) "newel/newellaw01.Example" y_l01_Example := hw 24 [] [] Try.func24
theorem y0h : Has (b0n Try.prog) "newel/drive.Distance" y_drive_Distance := hw 9 [3, 2] [(1000003, 4), (1000003, 5), (1000006, 4), (1000006, 5), (14, 7), (14, 8), (14, 100), (14, 101), (1000007, 7), (1000007, 8), (1000007, 28), (1000007, 30), (1000007, 33), (1000007, 36)] Try.func9
theorem y0q : Has (b0n Try.prog) "newel/newellaw03.Example" y_l03_Example := hw 25 [] [] Try.func25
theorem y0b : Has (b0n Try.prog) "newel/circuit.Pairs" y_circuit_Pairs := hw 26 [1, 26, 17] [] Try.func26
theorem y0j : Has (b0n Try.prog) "newel/drive.checkStop" y_drive_checkStop := hw 27 [3, 43, 38, 33, 32, 27, 26, 24, 23, 18, 17, 11, 2, 45] [] Try.func27
theorem y0m : Has (b0n Try.prog) "newel/drive.run" y_drive_run := hw 28 [4, 14, 11, 3] [] Try.func28
theorem y0a : Has (b0n Try.prog) "newel/circuit.Critical" y_circuit_Critical := hw 47 [1, 12] [] Try.func47
theorem y0t : Has (b0n Try.prog) "slices.Contains[[]int,int]" y_slices_Contains___int_int_ := hw 48 [] [] Try.func48
theorem y0e : Has (b0n Try.prog) "newel/circuit.weak" y_circuit_weak := hw 49 [2, 6] [] Try.func49
theorem y0f : Has (b0n Try.prog) "newel/drive.Check" y_drive_Check := hw 50 [1, 41, 36, 29, 22, 15, 10, 6] [] Try.func50
theorem y0o : Has (b0n Try.prog) "newel/drive.to" y_drive_to := hw 51 [] [] Try.func51
theorem y0l : Has (b0n Try.prog) "newel/drive.in" y_drive_in := hw 31 [3, 11, 5] [] Try.func31
theorem x90 : Has (b0n Try.prog) "(*newel/drive.motion).extreme" y___drive_motion__extreme := hw 52 [] [] Try.func52
theorem x97 : Has (b0n Try.prog) "newel/circuit.Check" y_circuit_Check := hw 69 [1, 93, 69, 50, 46, 41, 32, 27, 22, 17, 13, 9] [] Try.func69
theorem y0v : Has (b0n Try.prog) "slices.Index[[]int,int]" y_slices_Index___int_int_ := hw 70 [] [] Try.func70
theorem x94 : Has (b0n Try.prog) "(newel/circuit.state).wire" y__circuit_state__wire := hw 71 [2, 7, 6] [] Try.func71
theorem y0g : Has (b0n Try.prog) "newel/drive.Check$1" y_drive_CheckD1 := hw 72 [1, 8, 3] [] Try.func72
theorem x92 : Has (b0n Try.prog) "(*newel/drive.motion).with" y___drive_motion__with := hw 32 [] [] Try.func32
theorem y0s : Has (b0n Try.prog) "slices.Contains[[]bool,bool]" y_slices_Contains___bool_bool_ := hw 86 [] [] Try.func86
theorem v0l : Has (b0n Try.prog) "slices.ContainsFunc[[]int,int]" y_slices_ContainsFunc___int_int_ := hw 29 [] [] Try.func29
theorem y0c : Has (b0n Try.prog) "newel/circuit.ascending" y_circuit_ascending := hw 89 [] [] Try.func89
theorem x98 : Has (b0n Try.prog) "newel/circuit.Check$1" y_circuit_CheckD1 := hw 87 [] [] Try.func87
theorem x99 : Has (b0n Try.prog) "newel/circuit.Check$2" y_circuit_CheckD2 := hw 90 [] [] Try.func90
theorem x93 : Has (b0n Try.prog) "(newel/circuit.state).conducts" y__circuit_state__conducts := hw 91 [2, 25, 20, 19, 12, 5] [] Try.func91
theorem x95 : Has (b0n Try.prog) "(newel/circuit.state).wire$1" y__circuit_state__wireD1 := hw 92 [] [] Try.func92
theorem x91 : Has (b0n Try.prog) "(*newel/drive.motion).grip" y___drive_motion__grip := hw 55 [] [] Try.func55
theorem y0n : Has (b0n Try.prog) "newel/drive.tick" y_drive_tick := hw 54 [4, 24, 20, 16, 12] [] Try.func54
theorem y0u : Has (b0n Try.prog) "slices.Index[[]bool,bool]" y_slices_Index___bool_bool_ := hw 100 [] [] Try.func100
theorem l7c : Has (b0n Try.prog) "slices.IndexFunc[[]int,int]" y_slices_IndexFunc___int_int_ := hw 53 [] [] Try.func53
theorem y0d : Has (b0n Try.prog) "newel/circuit.isSet" y_circuit_isSet := hw 88 [] [] Try.func88
theorem y0i : Has (b0n Try.prog) "newel/drive.ahead" y_drive_ahead := hw 73 [] [] Try.func73
theorem y0k : Has (b0n Try.prog) "newel/drive.floor" y_drive_floor := hw 93 [] [] Try.func93
theorem l5x : ∀ p ∈ tbl, Has (b0n Try.prog) p.1 p.2 := by
 unfold tbl
 simp only [List.forall_mem_cons, List.not_mem_nil, false_implies, implies_true, and_true]
 exact ⟨y0r, y0p, y0h, y0q, y0b, y0j, y0m, y0a, y0t, y0e, y0f, y0o, y0l, x90, x97, y0v, x94, y0g, x92, y0s, v0l, y0c, x98, x99, x93, x95, x91, y0n, y0u, l7c, y0d, y0i, y0k⟩
theorem l7k : b0n Try.prog "newel/neweltop.measures" [] (B true) [] := by
 have h := l5b
 split at h
 ·rename_i ob e; exact l44 l5x e
 ·cases h
end Go.Nw.XM
