/- Plain laws on the models. -/
import Derived.Test.YtkoonfmgmgfmdaaDoorNwTopSrc
import Derived.Test.YtkoonfmgmgfmdaaDoorNwCall
import Derived.Test.YtkoonfmgmgfmdaaDoorRows
import Derived.LaidMore
import Derived.OpenShut
import Derived.MakeChecks
import Derived.Test.YtkoonfmgmgfmdaaDoorNwRun2
import Derived.Test.YtkoonfmgmgfmdaaDoorNwHas
import Derived.Test.YtkoonfmgmgfmdaaDoorProg
set_option linter.all false
set_option linter.unusedVariables false
set_option linter.unusedSimpArgs false
set_option linter.unusedSectionVars false
namespace Go.Nw.TM
open Go.Proofs Go.Nw.Top Go.RowKit
instance cfg : Cfg := ⟨fun g => if g = 0 then some gt_0 else if g = 1 then some gt_1 else none, fun f => (["(*newel/drive.motion).with", "(*newel/drive.motion).extreme"] : List String).contains f⟩
theorem u8s {P : Program} {w : World} {t e : TypeId} {fuel : Nat} {cs : List Value} {q : List MemPlace} {n : Nat} {l : List Int} (ht : P.underlying t = some (.array n e)) (he : P.underlying e = some (.int .u8)) (hc : P.cellsOf e = 1) (hc' : P.cellsOf t = n)
    (h : DataW.trod (fun _ => ()) P w 0 (fun _ => true) false fuel t cs = some (.agg (l.map fun x => .lit (.int .u8 x)), q)) : cs = l.map (Value.int .u8) := by
  obtain ⟨xs, m, rfl, hx, hlen, hn, hel⟩ := DataW.trod_array ht h
  simp only [Prod.mk.injEq, DataW.agg.injEq] at hx
  have hl : l.length = n := by have := congrArg List.length hx.1; simpa [hn] using this
  apply List.ext_getElem
  · rw [hlen, hc', List.length_map, hl]
  · intro i h1 h2
    have hin : i < n := by rw [hlen, hc'] at h1; exact h1
    have := hel i hin
    have hix : i < xs.length := by rw [hn]; exact hin
    rw [List.getElem?_eq_getElem hix] at this
    obtain ⟨k, e1, e2, _⟩ := DataW.trod_int he this
    rw [hc, Nat.mul_one, List.drop_eq_getElem_cons h1, List.take_succ_cons, List.take_zero] at e1
    have hk : cs[i] = .int .u8 k := by simpa using e1
    have hd : (l.map fun x => (DataW.lit (.int .u8 x) : DataW Unit))[i]? = some (.lit (.int .u8 k)) := by
      rw [hx.1, List.getElem?_map, List.getElem?_eq_getElem hix, e2]; rfl
    rw [List.getElem?_map, List.getElem?_eq_getElem (by rw [hl]; exact hin)] at hd
    simp at hd
    rw [hk, List.getElem_map, hd]
theorem j1p {W : World} (h : laidMetH Tryd.prog [("math/bits.deBruijn32tab", YtkoonfmgmgfmdaaDoor.Rows.laid_math_bits_deBruijn32tab), ("math/bits.deBruijn64tab", YtkoonfmgmgfmdaaDoor.Rows.laid_math_bits_deBruijn64tab)] W) : b5b W (fun b => b < W.heap.size) := by
  rw [MakeChecks.laidMetH_plain _ _ _ (by kernel_rfl)] at h
  obtain ⟨ps, ⟨g0, t0, cs0, f0, p0, q0, hg0, ht0, hv0, hd0, ⟨g1, t1, cs1, f1, p1, q1, hg1, ht1, hv1, hd1, _, _⟩, _⟩, _, _⟩ := h
  obtain rfl := Option.some.inj ((show Tryd.prog.globalNamed "math/bits.deBruijn32tab" = some 0 by kernel_rfl).symm.trans hg0)
  obtain rfl := Option.some.inj ((show Tryd.prog.globalNamed "math/bits.deBruijn64tab" = some 1 by kernel_rfl).symm.trans hg1)
  obtain rfl := Option.some.inj ((show (Tryd.prog.globals[0]?).map (·.type) = some 163 by kernel_rfl).symm.trans ht0)
  obtain rfl := Option.some.inj ((show (Tryd.prog.globals[1]?).map (·.type) = some 164 by kernel_rfl).symm.trans ht1)
  have u5 : Tryd.prog.underlying 5 = some (.int .u8) := by kernel_rfl
  have c5 : Tryd.prog.cellsOf 5 = 1 := by kernel_rfl
  have e0 : cs0.toList = gt_0 := u8s (n := 32) (by kernel_rfl) u5 c5 (by kernel_rfl) hd0
  have e1 : cs1.toList = gt_1 := u8s (n := 64) (by kernel_rfl) u5 c5 (by kernel_rfl) hd1
  have size : ∀ {n : String} {g : Nat} {cs : Array Value}, Tryd.prog.globalNamed n = some g → W.var? Tryd.prog n = some cs → g < W.heap.size := by
    intro n g cs hg hv
    simp only [World.var?, hg, Option.bind_some] at hv
    split at hv
    · rename_i e; exact (Array.getElem?_eq_some_iff.1 e).1
    · cases hv
  intro g cs hg
  by_cases z : g = 0
  · subst z
    obtain rfl : gt_0 = cs := Option.some.inj hg
    have hs := size hg0 hv0
    refine ⟨hs, hs, fun j v hj => ⟨?_, ?_⟩⟩
    · rw [World.var?_cell hg0 hv0 j, ← Array.getElem?_toList, e0, hj]
    · rw [g7d, List.getElem?_map] at hj
      cases hx : gl_0[j]? with
      | none => rw [hx] at hj; cases hj
      | some x => rw [hx] at hj; cases hj; rfl
  · by_cases z1 : g = 1
    · subst z1
      obtain rfl : gt_1 = cs := Option.some.inj hg
      have hs := size hg1 hv1
      refine ⟨hs, hs, fun j v hj => ⟨?_, ?_⟩⟩
      · rw [World.var?_cell hg1 hv1 j, ← Array.getElem?_toList, e1, hj]
      · rw [c9m, List.getElem?_map] at hj
        cases hx : gl_1[j]? with
        | none => rw [hx] at hj; cases hj
        | some x => rw [hx] at hj; cases hj; rfl
    · have : Cfg.tab g = none := by show (if g = 0 then some gt_0 else if g = 1 then some gt_1 else none) = none; rw [if_neg z, if_neg z1]
      rw [this] at hg; cases hg
theorem g48 (os : Os) (args : Array Value) : laidMetH Tryd.prog [("math/bits.deBruijn32tab", YtkoonfmgmgfmdaaDoor.Rows.laid_math_bits_deBruijn32tab), ("math/bits.deBruijn64tab", YtkoonfmgmgfmdaaDoor.Rows.laid_math_bits_deBruijn64tab)] ((World.doorLaid Tryd.prog 400 os).forCall (fun _ _ => 0) ⟨#[], args, []⟩).memory :=
  laidMetH_of_parts3 (fuel := 8) (laidMet_of_run' 8 (by kernel_rfl) (by kernel_rfl)) (by kernel_rfl) (by kernel_rfl)
end Go.Nw.TM
namespace Go.Nw.TM
open Go.Proofs Go.Nw.Top
set_option maxRecDepth 100000
def tbl : List (String × XFunc) := [("newel/neweltop.measures", x_neweltop_measures), ("newel/newellaw01.Example", x_l01_Example), ("newel/drive.Distance", x_drive_Distance), ("newel/newellaw03.Example", x_l03_Example), ("newel/circuit.Pairs", x_circuit_Pairs), ("newel/drive.checkStop", x_drive_checkStop), ("newel/drive.run", x_drive_run), ("newel/circuit.Critical", x_circuit_Critical), ("slices.Contains[[]int,int]", x_slices_Contains___int_int_), ("newel/circuit.weak", x_circuit_weak), ("newel/drive.Check", x_drive_Check), ("newel/drive.to", x_drive_to), ("newel/drive.in", x_drive_in), ("(*newel/drive.motion).extreme", x___drive_motion__extreme), ("newel/circuit.Check", x_circuit_Check), ("slices.Index[[]int,int]", x_slices_Index___int_int_), ("(newel/circuit.state).wire", x__circuit_state__wire), ("newel/drive.Check$1", x_drive_CheckD1), ("(*newel/drive.motion).with", x___drive_motion__with), ("slices.Contains[[]bool,bool]", x_slices_Contains___bool_bool_), ("slices.ContainsFunc[[]int,int]", x_slices_ContainsFunc___int_int_), ("newel/circuit.ascending", x_circuit_ascending), ("newel/circuit.Check$1", x_circuit_CheckD1), ("newel/circuit.Check$2", x_circuit_CheckD2), ("(newel/circuit.state).conducts", x__circuit_state__conducts), ("(newel/circuit.state).wire$1", x__circuit_state__wireD1), ("(*newel/drive.motion).grip", x___drive_motion__grip), ("newel/drive.tick", x_drive_tick), ("slices.Index[[]bool,bool]", x_slices_Index___bool_bool_), ("slices.IndexFunc[[]int,int]", x_slices_IndexFunc___int_int_), ("newel/circuit.isSet", x_circuit_isSet), ("newel/drive.ahead", x_drive_ahead), ("newel/drive.floor", x_drive_floor)]
theorem j85 : (match c3m tbl 40 "newel/neweltop.measures" [] [] with | some ([.v (.bool true)], _) => true | _ => false) = true := by kernel_rfl
theorem l0x : Has (b0t Tryd.prog) "newel/neweltop.measures" x_neweltop_measures := b1h 8 [] [] Tryd.func8 (by kernel_rfl) (by kernel_rfl)
theorem l0v : Has (b0t Tryd.prog) "newel/newellaw01.Example" x_l01_Example := b1h 24 [] [] Tryd.func24 (by kernel_rfl) (by kernel_rfl)
theorem l0n : Has (b0t Tryd.prog) "newel/drive.Distance" x_drive_Distance := b1h 23 [3, 2] [(1000003, 4), (1000003, 5), (1000006, 4), (1000006, 5), (14, 7), (14, 8), (14, 100), (14, 101), (1000007, 7), (1000007, 8), (1000007, 28), (1000007, 30), (1000007, 33), (1000007, 36)] Tryd.func23 (by kernel_rfl) (by kernel_rfl)
theorem l0w : Has (b0t Tryd.prog) "newel/newellaw03.Example" x_l03_Example := b1h 25 [] [] Tryd.func25 (by kernel_rfl) (by kernel_rfl)
theorem l0h : Has (b0t Tryd.prog) "newel/circuit.Pairs" x_circuit_Pairs := b1h 26 [1, 26, 17] [] Tryd.func26 (by kernel_rfl) (by kernel_rfl)
theorem l0p : Has (b0t Tryd.prog) "newel/drive.checkStop" x_drive_checkStop := b1h 47 [3, 43, 38, 33, 32, 27, 26, 24, 23, 18, 17, 11, 2, 45] [] Tryd.func47 (by kernel_rfl) (by kernel_rfl)
theorem l0s : Has (b0t Tryd.prog) "newel/drive.run" x_drive_run := b1h 48 [4, 14, 11, 3] [] Tryd.func48 (by kernel_rfl) (by kernel_rfl)
theorem l0g : Has (b0t Tryd.prog) "newel/circuit.Critical" x_circuit_Critical := b1h 49 [1, 12] [] Tryd.func49 (by kernel_rfl) (by kernel_rfl)
theorem l00 : Has (b0t Tryd.prog) "slices.Contains[[]int,int]" x_slices_Contains___int_int_ := b1h 50 [] [] Tryd.func50 (by kernel_rfl) (by kernel_rfl)
theorem l0k : Has (b0t Tryd.prog) "newel/circuit.weak" x_circuit_weak := b1h 51 [2, 6] [] Tryd.func51 (by kernel_rfl) (by kernel_rfl)
theorem l0l : Has (b0t Tryd.prog) "newel/drive.Check" x_drive_Check := b1h 71 [1, 41, 36, 29, 22, 15, 10, 6] [] Tryd.func71 (by kernel_rfl) (by kernel_rfl)
theorem l0u : Has (b0t Tryd.prog) "newel/drive.to" x_drive_to := b1h 73 [] [] Tryd.func73 (by kernel_rfl) (by kernel_rfl)
theorem l0r : Has (b0t Tryd.prog) "newel/drive.in" x_drive_in := b1h 72 [3, 11, 5] [] Tryd.func72 (by kernel_rfl) (by kernel_rfl)
theorem j97 : Has (b0t Tryd.prog) "(*newel/drive.motion).extreme" x___drive_motion__extreme := b1h 74 [] [] Tryd.func74 (by kernel_rfl) (by kernel_rfl)
theorem l0d : Has (b0t Tryd.prog) "newel/circuit.Check" x_circuit_Check := b1h 75 [1, 93, 69, 50, 46, 41, 32, 27, 22, 17, 13, 9] [] Tryd.func75 (by kernel_rfl) (by kernel_rfl)
theorem l03 : Has (b0t Tryd.prog) "slices.Index[[]int,int]" x_slices_Index___int_int_ := b1h 76 [] [] Tryd.func76 (by kernel_rfl) (by kernel_rfl)
theorem l0b : Has (b0t Tryd.prog) "(newel/circuit.state).wire" x__circuit_state__wire := b1h 77 [2, 7, 6] [] Tryd.func77 (by kernel_rfl) (by kernel_rfl)
theorem l0m : Has (b0t Tryd.prog) "newel/drive.Check$1" x_drive_CheckD1 := b1h 86 [1, 8, 3] [] Tryd.func86 (by kernel_rfl) (by kernel_rfl)
theorem j99 : Has (b0t Tryd.prog) "(*newel/drive.motion).with" x___drive_motion__with := b1h 87 [] [] Tryd.func87 (by kernel_rfl) (by kernel_rfl)
theorem l0z : Has (b0t Tryd.prog) "slices.Contains[[]bool,bool]" x_slices_Contains___bool_bool_ := b1h 88 [] [] Tryd.func88 (by kernel_rfl) (by kernel_rfl)
theorem l0y : Has (b0t Tryd.prog) "slices.ContainsFunc[[]int,int]" x_slices_ContainsFunc___int_int_ := b1h 60 [] [] Tryd.func60 (by kernel_rfl) (by kernel_rfl)
theorem l0i : Has (b0t Tryd.prog) "newel/circuit.ascending" x_circuit_ascending := b1h 91 [] [] Tryd.func91 (by kernel_rfl) (by kernel_rfl)
theorem l0e : Has (b0t Tryd.prog) "newel/circuit.Check$1" x_circuit_CheckD1 := b1h 89 [] [] Tryd.func89 (by kernel_rfl) (by kernel_rfl)
theorem l0f : Has (b0t Tryd.prog) "newel/circuit.Check$2" x_circuit_CheckD2 := b1h 92 [] [] Tryd.func92 (by kernel_rfl) (by kernel_rfl)
theorem l0a : Has (b0t Tryd.prog) "(newel/circuit.state).conducts" x__circuit_state__conducts := b1h 93 [2, 25, 20, 19, 12, 5] [] Tryd.func93 (by kernel_rfl) (by kernel_rfl)
theorem l0c : Has (b0t Tryd.prog) "(newel/circuit.state).wire$1" x__circuit_state__wireD1 := b1h 94 [] [] Tryd.func94 (by kernel_rfl) (by kernel_rfl)
theorem j98 : Has (b0t Tryd.prog) "(*newel/drive.motion).grip" x___drive_motion__grip := b1h 97 [] [] Tryd.func97 (by kernel_rfl) (by kernel_rfl)
theorem l0t : Has (b0t Tryd.prog) "newel/drive.tick" x_drive_tick := b1h 96 [4, 24, 20, 16, 12] [] Tryd.func96 (by kernel_rfl) (by kernel_rfl)
theorem l02 : Has (b0t Tryd.prog) "slices.Index[[]bool,bool]" x_slices_Index___bool_bool_ := b1h 98 [] [] Tryd.func98 (by kernel_rfl) (by kernel_rfl)
theorem l01 : Has (b0t Tryd.prog) "slices.IndexFunc[[]int,int]" x_slices_IndexFunc___int_int_ := b1h 83 [] [] Tryd.func83 (by kernel_rfl) (by kernel_rfl)
theorem l0j : Has (b0t Tryd.prog) "newel/circuit.isSet" x_circuit_isSet := b1h 90 [] [] Tryd.func90 (by kernel_rfl) (by kernel_rfl)
theorem l0o : Has (b0t Tryd.prog) "newel/drive.ahead" x_drive_ahead := b1h 99 [] [] Tryd.func99 (by kernel_rfl) (by kernel_rfl)
theorem l0q : Has (b0t Tryd.prog) "newel/drive.floor" x_drive_floor := b1h 100 [] [] Tryd.func100 (by kernel_rfl) (by kernel_rfl)
theorem j9s : ∀ p ∈ tbl, Has (b0t Tryd.prog) p.1 p.2 := by
  unfold tbl
  simp only [List.forall_mem_cons, List.not_mem_nil, false_implies, implies_true, and_true]
  exact ⟨l0x, l0v, l0n, l0w, l0h, l0p, l0s, l0g, l00, l0k, l0l, l0u, l0r, j97, l0d, l03, l0b, l0m, j99, l0z, l0y, l0i, l0e, l0f, l0a, l0c, j98, l0t, l02, l01, l0j, l0o, l0q⟩
theorem l09 : b0t Tryd.prog "newel/neweltop.measures" [] (B true) [] := by
  have h := j85
  split at h
  · rename_i ob e; exact j80 j9s e
  · cases h
end Go.Nw.TM
