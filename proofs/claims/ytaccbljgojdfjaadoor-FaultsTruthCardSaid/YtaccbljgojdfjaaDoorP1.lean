/- Plain laws on the models. -/
import Derived.Test.YtaccbljgojdfjaaDoorNwFaultSrc
import Derived.Test.YtaccbljgojdfjaaDoorNwCall
import Derived.Test.YtaccbljgojdfjaaDoorRows
import Derived.LaidMore
import Derived.OpenShut
import Derived.MakeChecks
import Derived.Test.YtaccbljgojdfjaaDoorNwRun2
import Derived.Test.YtaccbljgojdfjaaDoorNwHas
import Derived.Test.YtaccbljgojdfjaaDoorProg
set_option linter.all false
set_option linter.unusedVariables false
set_option linter.unusedSimpArgs false
set_option linter.unusedSectionVars false
namespace Go.Nw.FM
open Go.Proofs Go.Nw.Fault Go.RowKit
instance cfg : Cfg := ⟨fun g => if g = 0 then some gt_0 else if g = 1 then some gt_1 else none, fun f => (["slices.SortFunc[[]int,int]", "slices.pdqsortCmpFunc[int]", "slices.insertionSortCmpFunc[int]", "slices.heapSortCmpFunc[int]", "slices.siftDownCmpFunc[int]", "slices.breakPatternsCmpFunc[int]", "slices.reverseRangeCmpFunc[int]", "slices.partialInsertionSortCmpFunc[int]", "slices.partitionEqualCmpFunc[int]", "slices.partitionCmpFunc[int]"] : List String).contains f⟩
theorem u8s {P : Program} {w : World} {t e : TypeId} {fuel : Nat} {cs : List Value} {q : List MemPlace} {n : Nat} {l : List Int} (ht : P.underlying t = some (.array n e)) (he : P.underlying e = some (.int .u8)) (hc : P.cellsOf e = 1) (hc' : P.cellsOf t = n)
    (h : DataW.trod (fun _ => ()) P w 0 (fun _ => true) false fuel t cs = some (.agg (l.map fun x => .lit (.int .u8 x)), q)) : cs = l.map (Value.int .u8) := by
  obtain ⟨xs, m, rfl, hx, hlen, hn, hel⟩ := DataW.trod_array ht h
  simp only [Prod.mk.injEq, DataW.agg.injEq] at hx
  have hl : l.length = n := by have := congrArg List.length hx.1; simpa [hn] using this
  apply List.ext_getElem
  · rw [hlen, hc', List.length_map, hl]
  · intro i h1 h2
    have hin : i < n := by rw [hlen, hc'] at h1; exact h1
    have := hel i hin
    have hix : i < xs.length := by rw [hn]; exact hin
    rw [List.getElem?_eq_getElem hix] at this
    obtain ⟨k, e1, e2, _⟩ := DataW.trod_int he this
    rw [hc, Nat.mul_one, List.drop_eq_getElem_cons h1, List.take_succ_cons, List.take_zero] at e1
    have hk : cs[i] = .int .u8 k := by simpa using e1
    have hd : (l.map fun x => (DataW.lit (.int .u8 x) : DataW Unit))[i]? = some (.lit (.int .u8 k)) := by
      rw [hx.1, List.getElem?_map, List.getElem?_eq_getElem hix, e2]; rfl
    rw [List.getElem?_map, List.getElem?_eq_getElem (by rw [hl]; exact hin)] at hd
    simp at hd
    rw [hk, List.getElem_map, hd]
theorem d7m {W : World} (h : laidMetH Tryd.prog [("math/bits.deBruijn32tab", YtaccbljgojdfjaaDoor.Rows.laid_math_bits_deBruijn32tab), ("math/bits.deBruijn64tab", YtaccbljgojdfjaaDoor.Rows.laid_math_bits_deBruijn64tab)] W) : b2w W (fun b => b < W.heap.size) := by
  rw [MakeChecks.laidMetH_plain _ _ _ (by kernel_rfl)] at h
  obtain ⟨ps, ⟨g0, t0, cs0, f0, p0, q0, hg0, ht0, hv0, hd0, ⟨g1, t1, cs1, f1, p1, q1, hg1, ht1, hv1, hd1, _, _⟩, _⟩, _, _⟩ := h
  obtain rfl := Option.some.inj ((show Tryd.prog.globalNamed "math/bits.deBruijn32tab" = some 0 by kernel_rfl).symm.trans hg0)
  obtain rfl := Option.some.inj ((show Tryd.prog.globalNamed "math/bits.deBruijn64tab" = some 1 by kernel_rfl).symm.trans hg1)
  obtain rfl := Option.some.inj ((show (Tryd.prog.globals[0]?).map (·.type) = some 77 by kernel_rfl).symm.trans ht0)
  obtain rfl := Option.some.inj ((show (Tryd.prog.globals[1]?).map (·.type) = some 78 by kernel_rfl).symm.trans ht1)
  have u5 : Tryd.prog.underlying 5 = some (.int .u8) := by kernel_rfl
  have c5 : Tryd.prog.cellsOf 5 = 1 := by kernel_rfl
  have e0 : cs0.toList = gt_0 := u8s (n := 32) (by kernel_rfl) u5 c5 (by kernel_rfl) hd0
  have e1 : cs1.toList = gt_1 := u8s (n := 64) (by kernel_rfl) u5 c5 (by kernel_rfl) hd1
  have size : ∀ {n : String} {g : Nat} {cs : Array Value}, Tryd.prog.globalNamed n = some g → W.var? Tryd.prog n = some cs → g < W.heap.size := by
    intro n g cs hg hv
    simp only [World.var?, hg, Option.bind_some] at hv
    split at hv
    · rename_i e; exact (Array.getElem?_eq_some_iff.1 e).1
    · cases hv
  intro g cs hg
  by_cases z : g = 0
  · subst z
    obtain rfl : gt_0 = cs := Option.some.inj hg
    have hs := size hg0 hv0
    refine ⟨hs, hs, fun j v hj => ⟨?_, ?_⟩⟩
    · rw [World.var?_cell hg0 hv0 j, ← Array.getElem?_toList, e0, hj]
    · rw [d33, List.getElem?_map] at hj
      cases hx : gl_0[j]? with
      | none => rw [hx] at hj; cases hj
      | some x => rw [hx] at hj; cases hj; rfl
  · by_cases z1 : g = 1
    · subst z1
      obtain rfl : gt_1 = cs := Option.some.inj hg
      have hs := size hg1 hv1
      refine ⟨hs, hs, fun j v hj => ⟨?_, ?_⟩⟩
      · rw [World.var?_cell hg1 hv1 j, ← Array.getElem?_toList, e1, hj]
      · rw [c09, List.getElem?_map] at hj
        cases hx : gl_1[j]? with
        | none => rw [hx] at hj; cases hj
        | some x => rw [hx] at hj; cases hj; rfl
    · have : Cfg.tab g = none := by show (if g = 0 then some gt_0 else if g = 1 then some gt_1 else none) = none; rw [if_neg z, if_neg z1]
      rw [this] at hg; cases hg
theorem d2a (os : Os) (args : Array Value) : laidMetH Tryd.prog [("math/bits.deBruijn32tab", YtaccbljgojdfjaaDoor.Rows.laid_math_bits_deBruijn32tab), ("math/bits.deBruijn64tab", YtaccbljgojdfjaaDoor.Rows.laid_math_bits_deBruijn64tab)] ((World.doorLaid Tryd.prog 400 os).forCall (fun _ _ => 0) ⟨#[], args, []⟩).memory :=
  laidMetH_of_parts3 (fuel := 8) (laidMet_of_run' 8 (by kernel_rfl) (by kernel_rfl)) (by kernel_rfl) (by kernel_rfl)
end Go.Nw.FM
namespace Go.Nw.FM
open Go.Proofs Go.Nw.Fault
set_option maxRecDepth 100000
def tbl : List (String × XFunc) := [("newel/newellaw10.works", x_l10_works), ("newel/faults.Liars", x_faults_Liars), ("newel/faults.Explain", x_faults_Explain), ("newel/newellaw10.sameInts", x_l10_sameInts), ("newel/faults.readings", x_faults_readings), ("newel/faults.common", x_faults_common), ("newel/faults.fewer", x_faults_fewer), ("newel/faults.members", x_faults_members), ("newel/faults.plant", x_faults_plant), ("newel/faults.fewest", x_faults_fewest), ("newel/faults.within", x_faults_within), ("math/bits.OnesCount", x_math_bits_OnesCount), ("slices.Compare[[]int,int]", x_slices_Compare___int_int_), ("math/bits.TrailingZeros", x_math_bits_TrailingZeros), ("newel/faults.explained", x_faults_explained), ("slices.SortFunc[[]int,int]", x_slices_SortFunc___int_int_), ("newel/faults.fewest$1", x_faults_fewestD1), ("math/bits.OnesCount32", x_math_bits_OnesCount32), ("math/bits.OnesCount64", x_math_bits_OnesCount64), ("cmp.Compare[int]", x_cmp_Compare_int_), ("math/bits.TrailingZeros32", x_math_bits_TrailingZeros32), ("math/bits.TrailingZeros64", x_math_bits_TrailingZeros64), ("slices.ContainsFunc[[]int,int]", x_slices_ContainsFunc___int_int_), ("newel/faults.explained$1", x_faults_explainedD1), ("math/bits.Len", x_math_bits_Len), ("slices.pdqsortCmpFunc[int]", x_slices_pdqsortCmpFunc_int_), ("cmp.isNaN[int]", x_cmp_isNaN_int_), ("slices.IndexFunc[[]int,int]", x_slices_IndexFunc___int_int_), ("math/bits.Len32", x_math_bits_Len32), ("math/bits.Len64", x_math_bits_Len64), ("slices.insertionSortCmpFunc[int]", x_slices_insertionSortCmpFunc_int_), ("slices.heapSortCmpFunc[int]", x_slices_heapSortCmpFunc_int_), ("slices.breakPatternsCmpFunc[int]", x_slices_breakPatternsCmpFunc_int_), ("slices.choosePivotCmpFunc[int]", x_slices_choosePivotCmpFunc_int_), ("slices.reverseRangeCmpFunc[int]", x_slices_reverseRangeCmpFunc_int_), ("slices.partialInsertionSortCmpFunc[int]", x_slices_partialInsertionSortCmpFunc_int_), ("slices.partitionEqualCmpFunc[int]", x_slices_partitionEqualCmpFunc_int_), ("slices.partitionCmpFunc[int]", x_slices_partitionCmpFunc_int_), ("slices.siftDownCmpFunc[int]", x_slices_siftDownCmpFunc_int_), ("slices.nextPowerOfTwo", x_slices_nextPowerOfTwo), ("(*slices.xorshift).Next", x___slices_xorshift__Next), ("slices.medianAdjacentCmpFunc[int]", x_slices_medianAdjacentCmpFunc_int_), ("slices.medianCmpFunc[int]", x_slices_medianCmpFunc_int_), ("slices.order2CmpFunc[int]", x_slices_order2CmpFunc_int_)]
theorem g31 : (match b7c tbl 40 "newel/newellaw10.works" [] [] with | some ([.v (.bool true)], _) => true | _ => false) = true := by kernel_rfl
theorem g5a : Has (b0e Tryd.prog) "newel/newellaw10.works" x_l10_works := b0k 7 [] [] Tryd.func7 (by kernel_rfl) (by kernel_rfl)
theorem g4y : Has (b0e Tryd.prog) "newel/faults.Liars" x_faults_Liars := b0k 10 [] [] Tryd.func10 (by kernel_rfl) (by kernel_rfl)
theorem g4x : Has (b0e Tryd.prog) "newel/faults.Explain" x_faults_Explain := b0k 18 [2] [] Tryd.func18 (by kernel_rfl) (by kernel_rfl)
theorem g49 : Has (b0e Tryd.prog) "newel/newellaw10.sameInts" x_l10_sameInts := b0k 12 [] [] Tryd.func12 (by kernel_rfl) (by kernel_rfl)
theorem g47 : Has (b0e Tryd.prog) "newel/faults.readings" x_faults_readings := b0k 31 [] [] Tryd.func31 (by kernel_rfl) (by kernel_rfl)
theorem g4z : Has (b0e Tryd.prog) "newel/faults.common" x_faults_common := b0k 32 [] [(18, 6), (1000009, 6), (1000009, 48), (1000009, 50)] Tryd.func32 (by kernel_rfl) (by kernel_rfl)
theorem g42 : Has (b0e Tryd.prog) "newel/faults.fewer" x_faults_fewer := b0k 34 [] [] Tryd.func34 (by kernel_rfl) (by kernel_rfl)
theorem g45 : Has (b0e Tryd.prog) "newel/faults.members" x_faults_members := b0k 35 [] [] Tryd.func35 (by kernel_rfl) (by kernel_rfl)
theorem g46 : Has (b0e Tryd.prog) "newel/faults.plant" x_faults_plant := b0k 38 [2, 46, 36, 20, 15, 10] [] Tryd.func38 (by kernel_rfl) (by kernel_rfl)
theorem g43 : Has (b0e Tryd.prog) "newel/faults.fewest" x_faults_fewest := b0k 39 [2, 8] [] Tryd.func39 (by kernel_rfl) (by kernel_rfl)
theorem g48 : Has (b0e Tryd.prog) "newel/faults.within" x_faults_within := b0k 42 [] [] Tryd.func42 (by kernel_rfl) (by kernel_rfl)
theorem g5e : Has (b0e Tryd.prog) "math/bits.OnesCount" x_math_bits_OnesCount := b0k 43 [] [] Tryd.func43 (by kernel_rfl) (by kernel_rfl)
theorem g5k : Has (b0e Tryd.prog) "slices.Compare[[]int,int]" x_slices_Compare___int_int_ := b0k 44 [] [] Tryd.func44 (by kernel_rfl) (by kernel_rfl)
theorem g5h : Has (b0e Tryd.prog) "math/bits.TrailingZeros" x_math_bits_TrailingZeros := b0k 45 [] [] Tryd.func45 (by kernel_rfl) (by kernel_rfl)
theorem g40 : Has (b0e Tryd.prog) "newel/faults.explained" x_faults_explained := b0k 46 [5, 3, 30, 12] [] Tryd.func46 (by kernel_rfl) (by kernel_rfl)
theorem g5n : Has (b0e Tryd.prog) "slices.SortFunc[[]int,int]" x_slices_SortFunc___int_int_ := b0k 47 [] [] Tryd.func47 (by kernel_rfl) (by kernel_rfl)
theorem g44 : Has (b0e Tryd.prog) "newel/faults.fewest$1" x_faults_fewestD1 := b0k 48 [] [] Tryd.func48 (by kernel_rfl) (by kernel_rfl)
theorem g5f : Has (b0e Tryd.prog) "math/bits.OnesCount32" x_math_bits_OnesCount32 := b0k 49 [] [] Tryd.func49 (by kernel_rfl) (by kernel_rfl)
theorem g5g : Has (b0e Tryd.prog) "math/bits.OnesCount64" x_math_bits_OnesCount64 := b0k 50 [] [] Tryd.func50 (by kernel_rfl) (by kernel_rfl)
theorem g4v : Has (b0e Tryd.prog) "cmp.Compare[int]" x_cmp_Compare_int_ := b0k 51 [] [] Tryd.func51 (by kernel_rfl) (by kernel_rfl)
theorem g5i : Has (b0e Tryd.prog) "math/bits.TrailingZeros32" x_math_bits_TrailingZeros32 := b0k 52 [] [] Tryd.func52 (by kernel_rfl) (by kernel_rfl)
theorem g5j : Has (b0e Tryd.prog) "math/bits.TrailingZeros64" x_math_bits_TrailingZeros64 := b0k 53 [] [] Tryd.func53 (by kernel_rfl) (by kernel_rfl)
theorem g5l : Has (b0e Tryd.prog) "slices.ContainsFunc[[]int,int]" x_slices_ContainsFunc___int_int_ := b0k 54 [] [] Tryd.func54 (by kernel_rfl) (by kernel_rfl)
theorem g41 : Has (b0e Tryd.prog) "newel/faults.explained$1" x_faults_explainedD1 := b0k 55 [] [] Tryd.func55 (by kernel_rfl) (by kernel_rfl)
theorem g5b : Has (b0e Tryd.prog) "math/bits.Len" x_math_bits_Len := b0k 57 [] [] Tryd.func57 (by kernel_rfl) (by kernel_rfl)
theorem g5z : Has (b0e Tryd.prog) "slices.pdqsortCmpFunc[int]" x_slices_pdqsortCmpFunc_int_ := b0k 56 [] [] Tryd.func56 (by kernel_rfl) (by kernel_rfl)
theorem g4w : Has (b0e Tryd.prog) "cmp.isNaN[int]" x_cmp_isNaN_int_ := b0k 58 [] [] Tryd.func58 (by kernel_rfl) (by kernel_rfl)
theorem g5m : Has (b0e Tryd.prog) "slices.IndexFunc[[]int,int]" x_slices_IndexFunc___int_int_ := b0k 59 [] [] Tryd.func59 (by kernel_rfl) (by kernel_rfl)
theorem g5c : Has (b0e Tryd.prog) "math/bits.Len32" x_math_bits_Len32 := b0k 68 [] [] Tryd.func68 (by kernel_rfl) (by kernel_rfl)
theorem g5d : Has (b0e Tryd.prog) "math/bits.Len64" x_math_bits_Len64 := b0k 69 [] [] Tryd.func69 (by kernel_rfl) (by kernel_rfl)
theorem g5r : Has (b0e Tryd.prog) "slices.insertionSortCmpFunc[int]" x_slices_insertionSortCmpFunc_int_ := b0k 60 [] [] Tryd.func60 (by kernel_rfl) (by kernel_rfl)
theorem g5q : Has (b0e Tryd.prog) "slices.heapSortCmpFunc[int]" x_slices_heapSortCmpFunc_int_ := b0k 61 [] [] Tryd.func61 (by kernel_rfl) (by kernel_rfl)
theorem g5o : Has (b0e Tryd.prog) "slices.breakPatternsCmpFunc[int]" x_slices_breakPatternsCmpFunc_int_ := b0k 62 [] [] Tryd.func62 (by kernel_rfl) (by kernel_rfl)
theorem g5p : Has (b0e Tryd.prog) "slices.choosePivotCmpFunc[int]" x_slices_choosePivotCmpFunc_int_ := b0k 63 [] [] Tryd.func63 (by kernel_rfl) (by kernel_rfl)
theorem g50 : Has (b0e Tryd.prog) "slices.reverseRangeCmpFunc[int]" x_slices_reverseRangeCmpFunc_int_ := b0k 64 [] [] Tryd.func64 (by kernel_rfl) (by kernel_rfl)
theorem g5w : Has (b0e Tryd.prog) "slices.partialInsertionSortCmpFunc[int]" x_slices_partialInsertionSortCmpFunc_int_ := b0k 65 [] [] Tryd.func65 (by kernel_rfl) (by kernel_rfl)
theorem g5y : Has (b0e Tryd.prog) "slices.partitionEqualCmpFunc[int]" x_slices_partitionEqualCmpFunc_int_ := b0k 66 [] [] Tryd.func66 (by kernel_rfl) (by kernel_rfl)
theorem g5x : Has (b0e Tryd.prog) "slices.partitionCmpFunc[int]" x_slices_partitionCmpFunc_int_ := b0k 67 [] [] Tryd.func67 (by kernel_rfl) (by kernel_rfl)
theorem g51 : Has (b0e Tryd.prog) "slices.siftDownCmpFunc[int]" x_slices_siftDownCmpFunc_int_ := b0k 70 [] [] Tryd.func70 (by kernel_rfl) (by kernel_rfl)
theorem g5u : Has (b0e Tryd.prog) "slices.nextPowerOfTwo" x_slices_nextPowerOfTwo := b0k 71 [] [] Tryd.func71 (by kernel_rfl) (by kernel_rfl)
theorem g4u : Has (b0e Tryd.prog) "(*slices.xorshift).Next" x___slices_xorshift__Next := b0k 72 [] [] Tryd.func72 (by kernel_rfl) (by kernel_rfl)
theorem g5s : Has (b0e Tryd.prog) "slices.medianAdjacentCmpFunc[int]" x_slices_medianAdjacentCmpFunc_int_ := b0k 73 [] [] Tryd.func73 (by kernel_rfl) (by kernel_rfl)
theorem g5t : Has (b0e Tryd.prog) "slices.medianCmpFunc[int]" x_slices_medianCmpFunc_int_ := b0k 74 [] [] Tryd.func74 (by kernel_rfl) (by kernel_rfl)
theorem g5v : Has (b0e Tryd.prog) "slices.order2CmpFunc[int]" x_slices_order2CmpFunc_int_ := b0k 75 [] [] Tryd.func75 (by kernel_rfl) (by kernel_rfl)
theorem g4h : ∀ p ∈ tbl, Has (b0e Tryd.prog) p.1 p.2 := by
  unfold tbl
  simp only [List.forall_mem_cons, List.not_mem_nil, false_implies, implies_true, and_true]
  exact ⟨g5a, g4y, g4x, g49, g47, g4z, g42, g45, g46, g43, g48, g5e, g5k, g5h, g40, g5n, g44, g5f, g5g, g4v, g5i, g5j, g5l, g41, g5b, g5z, g4w, g5m, g5c, g5d, g5r, g5q, g5o, g5p, g50, g5w, g5y, g5x, g51, g5u, g4u, g5s, g5t, g5v⟩
theorem g54 : b0e Tryd.prog "newel/newellaw10.works" [] (B true) [] := by
  have h := g31
  split at h
  · rename_i ob e; exact g3w g4h e
  · cases h
end Go.Nw.FM
