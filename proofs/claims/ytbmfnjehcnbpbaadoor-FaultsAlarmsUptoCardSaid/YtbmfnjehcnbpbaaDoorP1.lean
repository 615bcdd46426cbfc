/- Plain laws on the models. -/
import Derived.Test.YtbmfnjehcnbpbaaDoorNwFt3Src
import Derived.Test.YtbmfnjehcnbpbaaDoorNwCall
import Derived.Test.YtbmfnjehcnbpbaaDoorRows
import Derived.LaidMore
import Derived.OpenShut
import Derived.MakeChecks
import Derived.Deep.Strs
import Derived.Test.YtbmfnjehcnbpbaaDoorNwRun2
import Derived.Test.YtbmfnjehcnbpbaaDoorNwHas
import Derived.Test.YtbmfnjehcnbpbaaDoorProg
import Derived.Test.YtbmfnjehcnbpbaaDoorNwVcg
import Derived.Test.YtbmfnjehcnbpbaaDoorNwChain
set_option linter.all false
namespace Go.Nw.WN
open Go.Proofs Go.Nw.Ft3 Go.RowKit Go.Deep
instance cfg : Cfg := ⟨fun g => if g = 0 then some b6h else if g = 1 then some u0n else none, fun f => (["slices.SortFunc[[]int,int]", "slices.pdqsortCmpFunc[int]", "slices.insertionSortCmpFunc[int]", "slices.heapSortCmpFunc[int]", "slices.siftDownCmpFunc[int]", "slices.breakPatternsCmpFunc[int]", "slices.reverseRangeCmpFunc[int]", "slices.partialInsertionSortCmpFunc[int]", "slices.partitionEqualCmpFunc[int]", "slices.partitionCmpFunc[int]", "slices.choosePivotCmpFunc[int]", "slices.order2CmpFunc[int]", "slices.medianCmpFunc[int]", "slices.medianAdjacentCmpFunc[int]", "(*slices.xorshift).Next", "newel/newelref10.bits"] : List String).contains f⟩
theorem u8s {P : Program} {w : World} {t e : TypeId} {fuel : Nat} {cs : List Value} {q : List MemPlace} {n : Nat} {l : List Int} (ht : P.underlying t = some (.array n e)) (he : P.underlying e = some (.int .u8)) (hc : P.cellsOf e = 1) (hc' : P.cellsOf t = n)
  (h : DataW.trod (fun _ => ()) P w 0 (fun _ => true) false fuel t cs = some (.agg (l.map fun x => .lit (.int .u8 x)), q)) : cs = l.map (Value.int .u8) := by
 obtain ⟨xs, m, rfl, hx, hlen, hn, hel⟩ := DataW.trod_array ht h
 simp only [Prod.mk.injEq, DataW.agg.injEq] at hx
 have hl : l.length = n := by have := congrArg List.length hx.1; simpa [hn] using this
 apply List.ext_getElem
 ·rw [hlen, hc', List.length_map, hl]
 ·intro i h1 h2
  have hin : i < n := by rw [hlen, hc'] at h1; exact h1
  have := hel i hin
  have hix : i < xs.length := by rw [hn]; exact hin
  rw [gG9 hix] at this
  obtain ⟨k, e1, e2, _⟩ := DataW.trod_int he this
  rw [hc, Nat.mul_one, List.drop_eq_getElem_cons h1, List.take_succ_cons, List.take_zero] at e1
  have hk : cs[i] = .int .u8 k := by simpa using e1
  have hd : (l.map fun x => (DataW.lit (.int .u8 x) : DataW Unit))[i]? = some (.lit (.int .u8 k)) := by
   rw [hx.1, List.getElem?_map, gG9 hix, e2]; rfl
  rw [List.getElem?_map, gG9 (by rw [hl]; exact hin)] at hd
  simp at hd
  rw [hk, List.getElem_map, hd]
theorem j7f {W : World} (h : laidMetH Tryd.prog [("math/bits.deBruijn32tab", YtbmfnjehcnbpbaaDoor.Rows.laid_math_bits_deBruijn32tab), ("math/bits.deBruijn64tab", YtbmfnjehcnbpbaaDoor.Rows.laid_math_bits_deBruijn64tab)] W) : r7j Tryd.prog W (fun b => b < W.heap.size) := by
 rw [MakeChecks.laidMetH_plain _ _ _ (by kernel_rfl)] at h
 obtain ⟨ps, ⟨g0, t0, cs0, f0, p0, q0, hg0, ht0, hv0, hd0, ⟨g1, t1, cs1, f1, p1, q1, hg1, ht1, hv1, hd1, _, _⟩, _⟩, _, _⟩ := h
 obtain rfl := Option.some.inj ((show Tryd.prog.globalNamed "math/bits.deBruijn32tab" = some 0 by kernel_rfl).symm.trans hg0)
 obtain rfl := Option.some.inj ((show Tryd.prog.globalNamed "math/bits.deBruijn64tab" = some 1 by kernel_rfl).symm.trans hg1)
 obtain rfl := Option.some.inj ((show (Tryd.prog.globals[0]?).map (·.type) = some 80 by kernel_rfl).symm.trans ht0)
 obtain rfl := Option.some.inj ((show (Tryd.prog.globals[1]?).map (·.type) = some 81 by kernel_rfl).symm.trans ht1)
 have u5 : Tryd.prog.underlying 5 = some (.int .u8) := by kernel_rfl
 have c5 : Tryd.prog.cellsOf 5 = 1 := by kernel_rfl
 have e0 : cs0.toList = b50.map (Value.int .u8) := u8s (n := 32) (by kernel_rfl) u5 c5 (by kernel_rfl) hd0
 have e1 : cs1.toList = u3d.map (Value.int .u8) := u8s (n := 64) (by kernel_rfl) u5 c5 (by kernel_rfl) hd1
 have size : ∀ {n : String} {g : Nat} {cs : Array Value}, Tryd.prog.globalNamed n = some g -> W.var? Tryd.prog n = some cs -> g < W.heap.size := by
  intro n g cs hg hv
  simp only [World.var?, hg, bS9] at hv
  split at hv
  ·rename_i e; exact (Array.getElem?_eq_some_iff.1 e).1
  ·cases hv
 intro g cs hg
 by_cases z0 : g = 0
 ·subst z0
  obtain rfl : b6h = cs := Option.some.inj hg
  have hs := size hg0 hv0
  refine ⟨hs, hs, fun j c hj => ?_⟩
  unfold b6h at hj
  rw [List.getElem?_map] at hj
  cases hx : b50[j]? with
  | none => rw [hx] at hj; cases hj
  | some x =>
   rw [hx] at hj; cases hj
   exact ⟨.int .u8 x, by rw [World.var?_cell hg0 hv0 j, <- Array.getElem?_toList, e0, List.getElem?_map, hx]; rfl, rfl, .v _⟩
 by_cases z1 : g = 1
 ·subst z1
  obtain rfl : u0n = cs := Option.some.inj hg
  have hs := size hg1 hv1
  refine ⟨hs, hs, fun j c hj => ?_⟩
  unfold u0n at hj
  rw [List.getElem?_map] at hj
  cases hx : u3d[j]? with
  | none => rw [hx] at hj; cases hj
  | some x =>
   rw [hx] at hj; cases hj
   exact ⟨.int .u8 x, by rw [World.var?_cell hg1 hv1 j, <- Array.getElem?_toList, e1, List.getElem?_map, hx]; rfl, rfl, .v _⟩
 have : Cfg.tab g = none := by show (if g = 0 then some b6h else if g = 1 then some u0n else none) = none; rw [if_neg z0, if_neg z1]
 rw [this] at hg; cases hg
theorem g9w (os : Os) (args : Array Value) : laidMetH Tryd.prog [("math/bits.deBruijn32tab", YtbmfnjehcnbpbaaDoor.Rows.laid_math_bits_deBruijn32tab), ("math/bits.deBruijn64tab", YtbmfnjehcnbpbaaDoor.Rows.laid_math_bits_deBruijn64tab)] ((World.doorLaid Tryd.prog 400 os).forCall (fun _ _ => 0) ⟨#[], args, []⟩).memory :=
 laidMetH_of_parts3 (fuel := 8) (laidMet_of_run' 8 (by kernel_rfl) (by kernel_rfl)) (by kernel_rfl) (by kernel_rfl)
end Go.Nw.WN
namespace Go.Nw.WN
open Go.Proofs Go.Nw.Ft3
set_option maxRecDepth 100000
def gy (o : Option XFunc) : XFunc := match o with | some x => x | none => ⟨0, [], .skip⟩
noncomputable def y_l10_works : XFunc := gy (c6p Tryd.prog [] [] Tryd.f6)
noncomputable def y_faults_Liars : XFunc := gy (c6p Tryd.prog [] [] Tryd.f23)
noncomputable def y_faults_Explain : XFunc := gy (c6p Tryd.prog [2] [] Tryd.f8)
noncomputable def y_l10_sameInts : XFunc := gy (c6p Tryd.prog [] [] Tryd.f10)
noncomputable def y_faults_readings : XFunc := gy (c6p Tryd.prog [] [] Tryd.f30)
noncomputable def y_faults_common : XFunc := gy (c6p Tryd.prog [] [] Tryd.f31)
noncomputable def y_faults_fewer : XFunc := gy (c6p Tryd.prog [] [] Tryd.f32)
noncomputable def y_faults_members : XFunc := gy (c6p Tryd.prog [] [] Tryd.f26)
noncomputable def y_faults_plant : XFunc := gy (c6p Tryd.prog [2, 46, 36, 20, 15, 10] [] Tryd.f24)
noncomputable def y_faults_fewest : XFunc := gy (c6p Tryd.prog [2, 8] [] Tryd.f25)
noncomputable def y_faults_within : XFunc := gy (c6p Tryd.prog [] [] Tryd.f33)
noncomputable def y_math_bits_OnesCount : XFunc := gy (c6p Tryd.prog [] [] Tryd.f35)
noncomputable def y_slices_Compare___int_int_ : XFunc := gy (c6p Tryd.prog [] [] Tryd.f38)
noncomputable def y_math_bits_TrailingZeros : XFunc := gy (c6p Tryd.prog [] [] Tryd.f39)
noncomputable def y_faults_explained : XFunc := gy (c6p Tryd.prog [5, 3, 30, 12] [] Tryd.f34)
noncomputable def y_slices_SortFunc___int_int_ : XFunc := gy (c6p Tryd.prog [] [] Tryd.f36)
noncomputable def y_faults_fewestD1 : XFunc := gy (c6p Tryd.prog [] [] Tryd.f37)
noncomputable def y_math_bits_OnesCount32 : XFunc := gy (c6p Tryd.prog [] [] Tryd.f42)
noncomputable def y_math_bits_OnesCount64 : XFunc := gy (c6p Tryd.prog [] [] Tryd.f43)
noncomputable def y_cmp_Compare_int_ : XFunc := gy (c6p Tryd.prog [] [] Tryd.f46)
noncomputable def y_math_bits_TrailingZeros32 : XFunc := gy (c6p Tryd.prog [] [] Tryd.f47)
noncomputable def y_math_bits_TrailingZeros64 : XFunc := gy (c6p Tryd.prog [] [] Tryd.f48)
noncomputable def y_slices_ContainsFunc___int_int_ : XFunc := gy (c6p Tryd.prog [] [] Tryd.f40)
noncomputable def y_faults_explainedD1 : XFunc := gy (c6p Tryd.prog [] [] Tryd.f41)
noncomputable def y_math_bits_Len : XFunc := gy (c6p Tryd.prog [] [] Tryd.f45)
noncomputable def y_slices_pdqsortCmpFunc_int_ : XFunc := gy (c6p Tryd.prog [] [] Tryd.f44)
noncomputable def y_cmp_isNaN_int_ : XFunc := gy (c6p Tryd.prog [] [] Tryd.f60)
noncomputable def y_slices_IndexFunc___int_int_ : XFunc := gy (c6p Tryd.prog [] [] Tryd.f49)
noncomputable def y_math_bits_Len32 : XFunc := gy (c6p Tryd.prog [] [] Tryd.f58)
noncomputable def y_math_bits_Len64 : XFunc := gy (c6p Tryd.prog [] [] Tryd.f59)
noncomputable def y_slices_insertionSortCmpFunc_int_ : XFunc := gy (c6p Tryd.prog [] [] Tryd.f50)
noncomputable def y_slices_heapSortCmpFunc_int_ : XFunc := gy (c6p Tryd.prog [] [] Tryd.f51)
noncomputable def y_slices_breakPatternsCmpFunc_int_ : XFunc := gy (c6p Tryd.prog [] [] Tryd.f52)
noncomputable def y_slices_choosePivotCmpFunc_int_ : XFunc := gy (c6p Tryd.prog [] [] Tryd.f53)
noncomputable def y_slices_reverseRangeCmpFunc_int_ : XFunc := gy (c6p Tryd.prog [] [] Tryd.f54)
noncomputable def y_slices_partialInsertionSortCmpFunc_int_ : XFunc := gy (c6p Tryd.prog [] [] Tryd.f55)
noncomputable def y_slices_partitionEqualCmpFunc_int_ : XFunc := gy (c6p Tryd.prog [] [] Tryd.f56)
noncomputable def y_slices_partitionCmpFunc_int_ : XFunc := gy (c6p Tryd.prog [] [] Tryd.f57)
noncomputable def y_slices_siftDownCmpFunc_int_ : XFunc := gy (c6p Tryd.prog [] [] Tryd.f61)
noncomputable def y_slices_nextPowerOfTwo : XFunc := gy (c6p Tryd.prog [] [] Tryd.f62)
noncomputable def y___slices_xorshift__Next : XFunc := gy (c6p Tryd.prog [] [] Tryd.f63)
noncomputable def y_slices_medianAdjacentCmpFunc_int_ : XFunc := gy (c6p Tryd.prog [] [] Tryd.f64)
noncomputable def y_slices_medianCmpFunc_int_ : XFunc := gy (c6p Tryd.prog [] [] Tryd.f65)
noncomputable def y_slices_order2CmpFunc_int_ : XFunc := gy (c6p Tryd.prog [] [] Tryd.f66)
noncomputable def tbl : List (String × XFunc) := [("newel/newellaw10.works", y_l10_works), ("newel/faults.Liars", y_faults_Liars), ("newel/faults.Explain", y_faults_Explain), ("newel/newellaw10.sameInts", y_l10_sameInts), ("newel/faults.readings", y_faults_readings), ("newel/faults.common", y_faults_common), ("newel/faults.fewer", y_faults_fewer), ("newel/faults.members", y_faults_members), ("newel/faults.plant", y_faults_plant), ("newel/faults.fewest", y_faults_fewest), ("newel/faults.within", y_faults_within), ("math/bits.OnesCount", y_math_bits_OnesCount), ("slices.Compare[[]int,int]", y_slices_Compare___int_int_), ("math/bits.TrailingZeros", y_math_bits_TrailingZeros), ("newel/faults.explained", y_faults_explained), ("slices.SortFunc[[]int,int]", y_slices_SortFunc___int_int_), ("newel/faults.fewest$1", y_faults_fewestD1), ("math/bits.OnesCount32", y_math_bits_OnesCount32), ("math/bits.OnesCount64", y_math_bits_OnesCount64), ("cmp.Compare[int]", y_cmp_Compare_int_), ("math/bits.TrailingZeros32", y_math_bits_TrailingZeros32), ("math/bits.TrailingZeros64", y_math_bits_TrailingZeros64), ("slices.ContainsFunc[[]int,int]", y_slices_ContainsFunc___int_int_), ("newel/faults.explained$1", y_faults_explainedD1), ("math/bits.Len", y_math_bits_Len), ("slices.pdqsortCmpFunc[int]", y_slices_pdqsortCmpFunc_int_), ("cmp.isNaN[int]", y_cmp_isNaN_int_), ("slices.IndexFunc[[]int,int]", y_slices_IndexFunc___int_int_), ("math/bits.Len32", y_math_bits_Len32), ("math/bits.Len64", y_math_bits_Len64), ("slices.insertionSortCmpFunc[int]", y_slices_insertionSortCmpFunc_int_), ("slices.heapSortCmpFunc[int]", y_slices_heapSortCmpFunc_int_), ("slices.breakPatternsCmpFunc[int]", y_slices_breakPatternsCmpFunc_int_), ("slices.choosePivotCmpFunc[int]", y_slices_choosePivotCmpFunc_int_), ("slices.reverseRangeCmpFunc[int]", y_slices_reverseRangeCmpFunc_int_), ("slices.partialInsertionSortCmpFunc[int]", y_slices_partialInsertionSortCmpFunc_int_), ("slices.partitionEqualCmpFunc[int]", y_slices_partitionEqualCmpFunc_int_), ("slices.partitionCmpFunc[int]", y_slices_partitionCmpFunc_int_), ("slices.siftDownCmpFunc[int]", y_slices_siftDownCmpFunc_int_), ("slices.nextPowerOfTwo", y_slices_nextPowerOfTwo), ("(*slices.xorshift).Next", y___slices_xorshift__Next), ("slices.medianAdjacentCmpFunc[int]", y_slices_medianAdjacentCmpFunc_int_), ("slices.medianCmpFunc[int]", y_slices_medianCmpFunc_int_), ("slices.order2CmpFunc[int]", y_slices_order2CmpFunc_int_)]
theorem l5b : (match c4q tbl 40 "newel/newellaw10.works" [] [] with | some ([.v (.bool true)], _) => true | _ => false) = true := by kernel_rfl
theorem hw {n : String} {x : XFunc} (k : Nat) {f0 : Func} (bf : List Nat) (fz : List (Nat × Nat)) (hk : Tryd.prog.funcs[k]? = some f0) (hu : ((b2k n).isNone && Tryd.prog.funcs.toList.zipIdx.all fun p => p.1.name != n || p.2 == k) = true := by kernel_rfl) (hc : c6p Tryd.prog bf fz f0 = some x := by kernel_rfl) : Has (b0n Tryd.prog) n x := b00 k bf fz hk hu hc
theorem v0a : Has (b0n Tryd.prog) "newel/newellaw10.works" y_l10_works := hw 6 [] [] Tryd.func6
theorem u9y : Has (b0n Tryd.prog) "newel/faults.Liars" y_faults_Liars := hw 23 [] [] Tryd.func23
theorem u9x : Has (b0n Tryd.prog) "newel/faults.Explain" y_faults_Explain := hw 8 [2] [] Tryd.func8
theorem u99 : Has (b0n Tryd.prog) "newel/newellaw10.sameInts" y_l10_sameInts := hw 10 [] [] Tryd.func10
theorem u97 : Has (b0n Tryd.prog) "newel/faults.readings" y_faults_readings := hw 30 [] [] Tryd.func30
theorem u9z : Has (b0n Tryd.prog) "newel/faults.common" y_faults_common := hw 31 [] [] Tryd.func31
theorem u92 : Has (b0n Tryd.prog) "newel/faults.fewer" y_faults_fewer := hw 32 [] [] Tryd.func32
theorem u95 : Has (b0n Tryd.prog) "newel/faults.members" y_faults_members := hw 26 [] [] Tryd.func26
theorem u96 : Has (b0n Tryd.prog) "newel/faults.plant" y_faults_plant := hw 24 [2, 46, 36, 20, 15, 10] [] Tryd.func24
theorem u93 : Has (b0n Tryd.prog) "newel/faults.fewest" y_faults_fewest := hw 25 [2, 8] [] Tryd.func25
theorem u98 : Has (b0n Tryd.prog) "newel/faults.within" y_faults_within := hw 33 [] [] Tryd.func33
theorem v0e : Has (b0n Tryd.prog) "math/bits.OnesCount" y_math_bits_OnesCount := hw 35 [] [] Tryd.func35
theorem v0k : Has (b0n Tryd.prog) "slices.Compare[[]int,int]" y_slices_Compare___int_int_ := hw 38 [] [] Tryd.func38
theorem v0h : Has (b0n Tryd.prog) "math/bits.TrailingZeros" y_math_bits_TrailingZeros := hw 39 [] [] Tryd.func39
theorem u90 : Has (b0n Tryd.prog) "newel/faults.explained" y_faults_explained := hw 34 [5, 3, 30, 12] [] Tryd.func34
theorem v0m : Has (b0n Tryd.prog) "slices.SortFunc[[]int,int]" y_slices_SortFunc___int_int_ := hw 36 [] [] Tryd.func36
theorem u94 : Has (b0n Tryd.prog) "newel/faults.fewest$1" y_faults_fewestD1 := hw 37 [] [] Tryd.func37
theorem v0f : Has (b0n Tryd.prog) "math/bits.OnesCount32" y_math_bits_OnesCount32 := hw 42 [] [] Tryd.func42
theorem v0g : Has (b0n Tryd.prog) "math/bits.OnesCount64" y_math_bits_OnesCount64 := hw 43 [] [] Tryd.func43
theorem u9v : Has (b0n Tryd.prog) "cmp.Compare[int]" y_cmp_Compare_int_ := hw 46 [] [] Tryd.func46
theorem v0i : Has (b0n Tryd.prog) "math/bits.TrailingZeros32" y_math_bits_TrailingZeros32 := hw 47 [] [] Tryd.func47
theorem v0j : Has (b0n Tryd.prog) "math/bits.TrailingZeros64" y_math_bits_TrailingZeros64 := hw 48 [] [] Tryd.func48
theorem v0l : Has (b0n Tryd.prog) "slices.ContainsFunc[[]int,int]" y_slices_ContainsFunc___int_int_ := hw 40 [] [] Tryd.func40
theorem u91 : Has (b0n Tryd.prog) "newel/faults.explained$1" y_faults_explainedD1 := hw 41 [] [] Tryd.func41
theorem v0b : Has (b0n Tryd.prog) "math/bits.Len" y_math_bits_Len := hw 45 [] [] Tryd.func45
theorem v0y : Has (b0n Tryd.prog) "slices.pdqsortCmpFunc[int]" y_slices_pdqsortCmpFunc_int_ := hw 44 [] [] Tryd.func44
theorem u9w : Has (b0n Tryd.prog) "cmp.isNaN[int]" y_cmp_isNaN_int_ := hw 60 [] [] Tryd.func60
theorem l7c : Has (b0n Tryd.prog) "slices.IndexFunc[[]int,int]" y_slices_IndexFunc___int_int_ := hw 49 [] [] Tryd.func49
theorem v0c : Has (b0n Tryd.prog) "math/bits.Len32" y_math_bits_Len32 := hw 58 [] [] Tryd.func58
theorem v0d : Has (b0n Tryd.prog) "math/bits.Len64" y_math_bits_Len64 := hw 59 [] [] Tryd.func59
theorem v0q : Has (b0n Tryd.prog) "slices.insertionSortCmpFunc[int]" y_slices_insertionSortCmpFunc_int_ := hw 50 [] [] Tryd.func50
theorem v0p : Has (b0n Tryd.prog) "slices.heapSortCmpFunc[int]" y_slices_heapSortCmpFunc_int_ := hw 51 [] [] Tryd.func51
theorem v0n : Has (b0n Tryd.prog) "slices.breakPatternsCmpFunc[int]" y_slices_breakPatternsCmpFunc_int_ := hw 52 [] [] Tryd.func52
theorem v0o : Has (b0n Tryd.prog) "slices.choosePivotCmpFunc[int]" y_slices_choosePivotCmpFunc_int_ := hw 53 [] [] Tryd.func53
theorem v0z : Has (b0n Tryd.prog) "slices.reverseRangeCmpFunc[int]" y_slices_reverseRangeCmpFunc_int_ := hw 54 [] [] Tryd.func54
theorem v0v : Has (b0n Tryd.prog) "slices.partialInsertionSortCmpFunc[int]" y_slices_partialInsertionSortCmpFunc_int_ := hw 55 [] [] Tryd.func55
theorem v0x : Has (b0n Tryd.prog) "slices.partitionEqualCmpFunc[int]" y_slices_partitionEqualCmpFunc_int_ := hw 56 [] [] Tryd.func56
theorem v0w : Has (b0n Tryd.prog) "slices.partitionCmpFunc[int]" y_slices_partitionCmpFunc_int_ := hw 57 [] [] Tryd.func57
theorem v00 : Has (b0n Tryd.prog) "slices.siftDownCmpFunc[int]" y_slices_siftDownCmpFunc_int_ := hw 61 [] [] Tryd.func61
theorem v0t : Has (b0n Tryd.prog) "slices.nextPowerOfTwo" y_slices_nextPowerOfTwo := hw 62 [] [] Tryd.func62
theorem u9u : Has (b0n Tryd.prog) "(*slices.xorshift).Next" y___slices_xorshift__Next := hw 63 [] [] Tryd.func63
theorem v0r : Has (b0n Tryd.prog) "slices.medianAdjacentCmpFunc[int]" y_slices_medianAdjacentCmpFunc_int_ := hw 64 [] [] Tryd.func64
theorem v0s : Has (b0n Tryd.prog) "slices.medianCmpFunc[int]" y_slices_medianCmpFunc_int_ := hw 65 [] [] Tryd.func65
theorem v0u : Has (b0n Tryd.prog) "slices.order2CmpFunc[int]" y_slices_order2CmpFunc_int_ := hw 66 [] [] Tryd.func66
theorem l5x : ∀ p ∈ tbl, Has (b0n Tryd.prog) p.1 p.2 := by
 unfold tbl
 simp only [List.forall_mem_cons, List.not_mem_nil, false_implies, implies_true, and_true]
 exact ⟨v0a, u9y, u9x, u99, u97, u9z, u92, u95, u96, u93, u98, v0e, v0k, v0h, u90, v0m, u94, v0f, v0g, u9v, v0i, v0j, v0l, u91, v0b, v0y, u9w, l7c, v0c, v0d, v0q, v0p, v0n, v0o, v0z, v0v, v0x, v0w, v00, v0t, u9u, v0r, v0s, v0u⟩
theorem l7k : b0n Tryd.prog "newel/newellaw10.works" [] (B true) [] := by
 have h := l5b
 split at h
 ·rename_i ob e; exact l44 l5x e
 ·cases h
end Go.Nw.WN
namespace Go.Nw
end Go.Nw
namespace Go.Nw
end Go.Nw
