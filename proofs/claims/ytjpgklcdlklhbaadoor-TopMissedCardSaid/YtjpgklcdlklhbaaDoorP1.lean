/- Plain laws on the models. -/
import Derived.Test.YtjpgklcdlklhbaaDoorNwTp4Src
import Derived.Test.YtjpgklcdlklhbaaDoorNwCall
import Derived.Test.YtjpgklcdlklhbaaDoorRows
import Derived.LaidMore
import Derived.OpenShut
import Derived.MakeChecks
import Derived.Deep.Strs
import Derived.Test.YtjpgklcdlklhbaaDoorNwRun2
import Derived.Test.YtjpgklcdlklhbaaDoorNwHas
import Derived.Test.YtjpgklcdlklhbaaDoorProg
import Derived.Test.YtjpgklcdlklhbaaDoorNwVcg
import Derived.Test.YtjpgklcdlklhbaaDoorNwChain
set_option linter.all false
namespace Go.Nw.VM
open Go.Proofs Go.Nw.Tp4 Go.RowKit Go.Deep
instance cfg : Cfg := ⟨fun g => if g = 0 then some b6h else if g = 1 then some u0n else none, fun f => (["slices.SortFunc[[]int,int]", "slices.pdqsortCmpFunc[int]", "slices.insertionSortCmpFunc[int]", "slices.heapSortCmpFunc[int]", "slices.siftDownCmpFunc[int]", "slices.breakPatternsCmpFunc[int]", "slices.reverseRangeCmpFunc[int]", "slices.partialInsertionSortCmpFunc[int]", "slices.partitionEqualCmpFunc[int]", "slices.partitionCmpFunc[int]", "(*newel/drive.motion).with", "(*newel/drive.motion).extreme"] : List String).contains f⟩
theorem u8s {P : Program} {w : World} {t e : TypeId} {fuel : Nat} {cs : List Value} {q : List MemPlace} {n : Nat} {l : List Int} (ht : P.underlying t = some (.array n e)) (he : P.underlying e = some (.int .u8)) (hc : P.cellsOf e = 1) (hc' : P.cellsOf t = n)
  (h : DataW.trod (fun _ => ()) P w 0 (fun _ => true) false fuel t cs = some (.agg (l.map fun x => .lit (.int .u8 x)), q)) : cs = l.map (Value.int .u8) := by
 obtain ⟨xs, m, rfl, hx, hlen, hn, hel⟩ := DataW.trod_array ht h
 simp only [Prod.mk.injEq, DataW.agg.injEq] at hx
 have hl : l.length = n := by have := congrArg List.length hx.1; simpa [hn] using this
 apply List.ext_getElem
 ·rw [hlen, hc', List.length_map, hl]
 ·intro i h1 h2
  have hin : i < n := by rw [hlen, hc'] at h1; exact h1
  have := hel i hin
  have hix : i < xs.length := by rw [hn]; exact hin
  rw [gG9 hix] at this
  obtain ⟨k, e1, e2, _⟩ := DataW.trod_int he this
  rw [hc, Nat.mul_one, List.drop_eq_getElem_cons h1, List.take_succ_cons, List.take_zero] at e1
  have hk : cs[i] = .int .u8 k := by simpa using e1
  have hd : (l.map fun x => (DataW.lit (.int .u8 x) : DataW Unit))[i]? = some (.lit (.int .u8 k)) := by
   rw [hx.1, List.getElem?_map, gG9 hix, e2]; rfl
  rw [List.getElem?_map, gG9 (by rw [hl]; exact hin)] at hd
  simp at hd
  rw [hk, List.getElem_map, hd]
theorem j7f {W : World} (h : laidMetH Tryd.prog [("math/bits.deBruijn32tab", YtjpgklcdlklhbaaDoor.Rows.laid_math_bits_deBruijn32tab), ("math/bits.deBruijn64tab", YtjpgklcdlklhbaaDoor.Rows.laid_math_bits_deBruijn64tab)] W) : r7j Tryd.prog W (fun b => b < W.heap.size) := by
 rw [MakeChecks.laidMetH_plain _ _ _ (by kernel_rfl)] at h
 obtain ⟨ps, ⟨g0, t0, cs0, f0, p0, q0, hg0, ht0, hv0, hd0, ⟨g1, t1, cs1, f1, p1, q1, hg1, ht1, hv1, hd1, _, _⟩, _⟩, _, _⟩ := h
 obtain rfl := Option.some.inj ((show Tryd.prog.globalNamed "math/bits.deBruijn32tab" = some 0 by kernel_rfl).symm.trans hg0)
 obtain rfl := Option.some.inj ((show Tryd.prog.globalNamed "math/bits.deBruijn64tab" = some 1 by kernel_rfl).symm.trans hg1)
 obtain rfl := Option.some.inj ((show (Tryd.prog.globals[0]?).map (·.type) = some 125 by kernel_rfl).symm.trans ht0)
 obtain rfl := Option.some.inj ((show (Tryd.prog.globals[1]?).map (·.type) = some 126 by kernel_rfl).symm.trans ht1)
 have u5 : Tryd.prog.underlying 5 = some (.int .u8) := by kernel_rfl
 have c5 : Tryd.prog.cellsOf 5 = 1 := by kernel_rfl
 have e0 : cs0.toList = b50.map (Value.int .u8) := u8s (n := 32) (by kernel_rfl) u5 c5 (by kernel_rfl) hd0
 have e1 : cs1.toList = u3d.map (Value.int .u8) := u8s (n := 64) (by kernel_rfl) u5 c5 (by kernel_rfl) hd1
 have size : ∀ {n : String} {g : Nat} {cs : Array Value}, Tryd.prog.globalNamed n = some g -> W.var? Tryd.prog n = some cs -> g < W.heap.size := by
  intro n g cs hg hv
  simp only [World.var?, hg, bS9] at hv
  split at hv
  ·rename_i e; exact (Array.getElem?_eq_some_iff.1 e).1
  ·cases hv
 intro g cs hg
 by_cases z0 : g = 0
 ·subst z0
  obtain rfl : b6h = cs := Option.some.inj hg
  have hs := size hg0 hv0
  refine ⟨hs, hs, fun j c hj => ?_⟩
  unfold b6h at hj
  rw [List.getElem?_map] at hj
  cases hx : b50[j]? with
  | none => rw [hx] at hj; cases hj
  | some x =>
   rw [hx] at hj; cases hj
   exact ⟨.int .u8 x, by rw [World.var?_cell hg0 hv0 j, <- Array.getElem?_toList, e0, List.getElem?_map, hx]; rfl, rfl, .v _⟩
 by_cases z1 : g = 1
 ·subst z1
  obtain rfl : u0n = cs := Option.some.inj hg
  have hs := size hg1 hv1
  refine ⟨hs, hs, fun j c hj => ?_⟩
  unfold u0n at hj
  rw [List.getElem?_map] at hj
  cases hx : u3d[j]? with
  | none => rw [hx] at hj; cases hj
  | some x =>
   rw [hx] at hj; cases hj
   exact ⟨.int .u8 x, by rw [World.var?_cell hg1 hv1 j, <- Array.getElem?_toList, e1, List.getElem?_map, hx]; rfl, rfl, .v _⟩
 have : Cfg.tab g = none := by show (if g = 0 then some b6h else if g = 1 then some u0n else none) = none; rw [if_neg z0, if_neg z1]
 rw [this] at hg; cases hg
theorem g9w (os : Os) (args : Array Value) : laidMetH Tryd.prog [("math/bits.deBruijn32tab", YtjpgklcdlklhbaaDoor.Rows.laid_math_bits_deBruijn32tab), ("math/bits.deBruijn64tab", YtjpgklcdlklhbaaDoor.Rows.laid_math_bits_deBruijn64tab)] ((World.doorLaid Tryd.prog 400 os).forCall (fun _ _ => 0) ⟨#[], args, []⟩).memory :=
 laidMetH_of_parts3 (fuel := 8) (laidMet_of_run' 8 (by kernel_rfl) (by kernel_rfl)) (by kernel_rfl) (by kernel_rfl)
end Go.Nw.VM
namespace Go.Nw.VM
open Go.Proofs Go.Nw.Tp4
set_option maxRecDepth 100000
def gy (o : Option XFunc) : XFunc := match o with | some x => x | none => ⟨0, [], .skip⟩
noncomputable def y_neweltop_measures : XFunc := gy (c6p Tryd.prog [] [] Tryd.f6)
noncomputable def y_l01_Example : XFunc := gy (c6p Tryd.prog [] [] Tryd.f16)
noncomputable def y_drive_Distance : XFunc := gy (c6p Tryd.prog [3, 2] [(1000003, 4), (1000003, 5), (1000006, 4), (1000006, 5), (14, 7), (14, 8), (14, 100), (14, 101), (1000007, 7), (1000007, 8), (1000007, 28), (1000007, 30), (1000007, 33), (1000007, 36)] Tryd.f15)
noncomputable def y_l03_Example : XFunc := gy (c6p Tryd.prog [] [] Tryd.f17)
noncomputable def y_circuit_Pairs : XFunc := gy (c6p Tryd.prog [1, 26, 17] [] Tryd.f18)
noncomputable def y_drive_checkStop : XFunc := gy (c6p Tryd.prog [3, 43, 38, 33, 32, 27, 26, 24, 23, 18, 17, 11, 2, 45] [] Tryd.f29)
noncomputable def y_drive_run : XFunc := gy (c6p Tryd.prog [4, 14, 11, 3] [] Tryd.f30)
noncomputable def y_circuit_Critical : XFunc := gy (c6p Tryd.prog [1, 12] [] Tryd.f31)
noncomputable def y_slices_Contains___int_int_ : XFunc := gy (c6p Tryd.prog [] [] Tryd.f32)
noncomputable def y_circuit_weak : XFunc := gy (c6p Tryd.prog [2, 6] [] Tryd.f33)
noncomputable def y_drive_Check : XFunc := gy (c6p Tryd.prog [1, 41, 36, 29, 22, 15, 10, 6] [] Tryd.f48)
noncomputable def y_drive_to : XFunc := gy (c6p Tryd.prog [] [] Tryd.f50)
noncomputable def y_drive_in : XFunc := gy (c6p Tryd.prog [3, 11, 5] [] Tryd.f49)
noncomputable def y___drive_motion__extreme : XFunc := gy (c6p Tryd.prog [] [] Tryd.f51)
noncomputable def y_circuit_Check : XFunc := gy (c6p Tryd.prog [1, 93, 69, 50, 46, 41, 32, 27, 22, 17, 13, 9] [(46, 4)] Tryd.f34)
noncomputable def y_slices_Index___int_int_ : XFunc := gy (c6p Tryd.prog [] [] Tryd.f52)
noncomputable def y__circuit_state__wire : XFunc := gy (c6p Tryd.prog [2, 7, 6] [] Tryd.f53)
noncomputable def y_drive_CheckD1 : XFunc := gy (c6p Tryd.prog [1, 8, 3] [] Tryd.f69)
noncomputable def y___drive_motion__with : XFunc := gy (c6p Tryd.prog [] [] Tryd.f70)
noncomputable def y_slices_Contains___bool_bool_ : XFunc := gy (c6p Tryd.prog [] [] Tryd.f54)
noncomputable def y_slices_ContainsFunc___int_int_ : XFunc := gy (c6p Tryd.prog [] [] Tryd.f55)
noncomputable def y_circuit_ascending : XFunc := gy (c6p Tryd.prog [] [] Tryd.f57)
noncomputable def y_circuit_CheckD1 : XFunc := gy (c6p Tryd.prog [] [] Tryd.f56)
noncomputable def y_circuit_CheckD2 : XFunc := gy (c6p Tryd.prog [] [] Tryd.f58)
noncomputable def y__circuit_state__conducts : XFunc := gy (c6p Tryd.prog [2, 25, 20, 19, 12, 5] [] Tryd.f71)
noncomputable def y__circuit_state__wireD1 : XFunc := gy (c6p Tryd.prog [] [] Tryd.f72)
noncomputable def y___drive_motion__grip : XFunc := gy (c6p Tryd.prog [] [] Tryd.f87)
noncomputable def y_drive_tick : XFunc := gy (c6p Tryd.prog [4, 24, 20, 16, 12] [] Tryd.f86)
noncomputable def y_slices_Index___bool_bool_ : XFunc := gy (c6p Tryd.prog [] [] Tryd.f73)
noncomputable def y_slices_IndexFunc___int_int_ : XFunc := gy (c6p Tryd.prog [] [] Tryd.f74)
noncomputable def y_circuit_isSet : XFunc := gy (c6p Tryd.prog [] [] Tryd.f35)
noncomputable def y_drive_ahead : XFunc := gy (c6p Tryd.prog [] [] Tryd.f93)
noncomputable def y_drive_floor : XFunc := gy (c6p Tryd.prog [] [] Tryd.f95)
noncomputable def tbl : List (String × XFunc) := [("newel/neweltop.measures", y_neweltop_measures), ("newel/newellaw01.Example", y_l01_Example), ("newel/drive.Distance", y_drive_Distance), ("newel/newellaw03.Example", y_l03_Example), ("newel/circuit.Pairs", y_circuit_Pairs), ("newel/drive.checkStop", y_drive_checkStop), ("newel/drive.run", y_drive_run), ("newel/circuit.Critical", y_circuit_Critical), ("slices.Contains[[]int,int]", y_slices_Contains___int_int_), ("newel/circuit.weak", y_circuit_weak), ("newel/drive.Check", y_drive_Check), ("newel/drive.to", y_drive_to), ("newel/drive.in", y_drive_in), ("(*newel/drive.motion).extreme", y___drive_motion__extreme), ("newel/circuit.Check", y_circuit_Check), ("slices.Index[[]int,int]", y_slices_Index___int_int_), ("(newel/circuit.state).wire", y__circuit_state__wire), ("newel/drive.Check$1", y_drive_CheckD1), ("(*newel/drive.motion).with", y___drive_motion__with), ("slices.Contains[[]bool,bool]", y_slices_Contains___bool_bool_), ("slices.ContainsFunc[[]int,int]", y_slices_ContainsFunc___int_int_), ("newel/circuit.ascending", y_circuit_ascending), ("newel/circuit.Check$1", y_circuit_CheckD1), ("newel/circuit.Check$2", y_circuit_CheckD2), ("(newel/circuit.state).conducts", y__circuit_state__conducts), ("(newel/circuit.state).wire$1", y__circuit_state__wireD1), ("(*newel/drive.motion).grip", y___drive_motion__grip), ("newel/drive.tick", y_drive_tick), ("slices.Index[[]bool,bool]", y_slices_Index___bool_bool_), ("slices.IndexFunc[[]int,int]", y_slices_IndexFunc___int_int_), ("newel/circuit.isSet", y_circuit_isSet), ("newel/drive.ahead", y_drive_ahead), ("newel/drive.floor", y_drive_floor)]
theorem l5b : (match c4q tbl 40 "newel/neweltop.measures" [] [] with | some ([.v (.bool true)], _) => true | _ => false) = true := by kernel_rfl
theorem hw {n : String} {x : XFunc} (k : Nat) {f0 : Func} (bf : List Nat) (fz : List (Nat × Nat)) (hk : Tryd.prog.funcs[k]? = some f0) (hu : ((b2k n).isNone && Tryd.prog.funcs.toList.zipIdx.all fun p => p.1.name != n || p.2 == k) = true := by kernel_rfl) (hc : c6p Tryd.prog bf fz f0 = some x := by kernel_rfl) : Has (b0n Tryd.prog) n x := b00 k bf fz hk hu hc
theorem y0r : Has (b0n Tryd.prog) "newel/neweltop.measures" y_neweltop_measures := hw 6 [] [] Tryd.func6
theorem y0p : Has (b0n Tryd.prog) "newel/newellaw01.Example" y_l01_Example := hw 16 [] [] Tryd.func16
theorem y0h : Has (b0n Tryd.prog) "newel/drive.Distance" y_drive_Distance := hw 15 [3, 2] [(1000003, 4), (1000003, 5), (1000006, 4), (1000006, 5), (14, 7), (14, 8), (14, 100), (14, 101), (1000007, 7), (1000007, 8), (1000007, 28), (1000007, 30), (1000007, 33), (1000007, 36)] Tryd.func15
theorem y0q : Has (b0n Tryd.prog) "newel/newellaw03.Example" y_l03_Example := hw 17 [] [] Tryd.func17
theorem y0b : Has (b0n Tryd.prog) "newel/circuit.Pairs" y_circuit_Pairs := hw 18 [1, 26, 17] [] Tryd.func18
theorem y0j : Has (b0n Tryd.prog) "newel/drive.checkStop" y_drive_checkStop := hw 29 [3, 43, 38, 33, 32, 27, 26, 24, 23, 18, 17, 11, 2, 45] [] Tryd.func29
theorem y0m : Has (b0n Tryd.prog) "newel/drive.run" y_drive_run := hw 30 [4, 14, 11, 3] [] Tryd.func30
theorem y0a : Has (b0n Tryd.prog) "newel/circuit.Critical" y_circuit_Critical := hw 31 [1, 12] [] Tryd.func31
theorem y0t : Has (b0n Tryd.prog) "slices.Contains[[]int,int]" y_slices_Contains___int_int_ := hw 32 [] [] Tryd.func32
theorem y0e : Has (b0n Tryd.prog) "newel/circuit.weak" y_circuit_weak := hw 33 [2, 6] [] Tryd.func33
theorem y0f : Has (b0n Tryd.prog) "newel/drive.Check" y_drive_Check := hw 48 [1, 41, 36, 29, 22, 15, 10, 6] [] Tryd.func48
theorem y0o : Has (b0n Tryd.prog) "newel/drive.to" y_drive_to := hw 50 [] [] Tryd.func50
theorem y0l : Has (b0n Tryd.prog) "newel/drive.in" y_drive_in := hw 49 [3, 11, 5] [] Tryd.func49
theorem x90 : Has (b0n Tryd.prog) "(*newel/drive.motion).extreme" y___drive_motion__extreme := hw 51 [] [] Tryd.func51
theorem x97 : Has (b0n Tryd.prog) "newel/circuit.Check" y_circuit_Check := hw 34 [1, 93, 69, 50, 46, 41, 32, 27, 22, 17, 13, 9] [(46, 4)] Tryd.func34
theorem y0v : Has (b0n Tryd.prog) "slices.Index[[]int,int]" y_slices_Index___int_int_ := hw 52 [] [] Tryd.func52
theorem x94 : Has (b0n Tryd.prog) "(newel/circuit.state).wire" y__circuit_state__wire := hw 53 [2, 7, 6] [] Tryd.func53
theorem y0g : Has (b0n Tryd.prog) "newel/drive.Check$1" y_drive_CheckD1 := hw 69 [1, 8, 3] [] Tryd.func69
theorem x92 : Has (b0n Tryd.prog) "(*newel/drive.motion).with" y___drive_motion__with := hw 70 [] [] Tryd.func70
theorem y0s : Has (b0n Tryd.prog) "slices.Contains[[]bool,bool]" y_slices_Contains___bool_bool_ := hw 54 [] [] Tryd.func54
theorem v0l : Has (b0n Tryd.prog) "slices.ContainsFunc[[]int,int]" y_slices_ContainsFunc___int_int_ := hw 55 [] [] Tryd.func55
theorem y0c : Has (b0n Tryd.prog) "newel/circuit.ascending" y_circuit_ascending := hw 57 [] [] Tryd.func57
theorem x98 : Has (b0n Tryd.prog) "newel/circuit.Check$1" y_circuit_CheckD1 := hw 56 [] [] Tryd.func56
theorem x99 : Has (b0n Tryd.prog) "newel/circuit.Check$2" y_circuit_CheckD2 := hw 58 [] [] Tryd.func58
theorem x93 : Has (b0n Tryd.prog) "(newel/circuit.state).conducts" y__circuit_state__conducts := hw 71 [2, 25, 20, 19, 12, 5] [] Tryd.func71
theorem x95 : Has (b0n Tryd.prog) "(newel/circuit.state).wire$1" y__circuit_state__wireD1 := hw 72 [] [] Tryd.func72
theorem x91 : Has (b0n Tryd.prog) "(*newel/drive.motion).grip" y___drive_motion__grip := hw 87 [] [] Tryd.func87
theorem y0n : Has (b0n Tryd.prog) "newel/drive.tick" y_drive_tick := hw 86 [4, 24, 20, 16, 12] [] Tryd.func86
theorem y0u : Has (b0n Tryd.prog) "slices.Index[[]bool,bool]" y_slices_Index___bool_bool_ := hw 73 [] [] Tryd.func73
theorem l7c : Has (b0n Tryd.prog) "slices.IndexFunc[[]int,int]" y_slices_IndexFunc___int_int_ := hw 74 [] [] Tryd.func74
theorem y0d : Has (b0n Tryd.prog) "newel/circuit.isSet" y_circuit_isSet := hw 35 [] [] Tryd.func35
theorem y0i : Has (b0n Tryd.prog) "newel/drive.ahead" y_drive_ahead := hw 93 [] [] Tryd.func93
theorem y0k : Has (b0n Tryd.prog) "newel/drive.floor" y_drive_floor := hw 95 [] [] Tryd.func95
theorem l5x : ∀ p ∈ tbl, Has (b0n Tryd.prog) p.1 p.2 := by
 unfold tbl
 simp only [List.forall_mem_cons, List.not_mem_nil, false_implies, implies_true, and_true]
 exact ⟨y0r, y0p, y0h, y0q, y0b, y0j, y0m, y0a, y0t, y0e, y0f, y0o, y0l, x90, x97, y0v, x94, y0g, x92, y0s, v0l, y0c, x98, x99, x93, x95, x91, y0n, y0u, l7c, y0d, y0i, y0k⟩
theorem l7k : b0n Tryd.prog "newel/neweltop.measures" [] (B true) [] := by
 have h := l5b
 split at h
 ·rename_i ob e; exact l44 l5x e
 ·cases h
end Go.Nw.VM
namespace Go.Nw
end Go.Nw
namespace Go.Nw
end Go.Nw
