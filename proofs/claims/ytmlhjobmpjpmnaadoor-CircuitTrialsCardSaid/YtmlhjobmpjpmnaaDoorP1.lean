/- The package variables that the door seat's functions read, and that the program lays them. -/
import Derived.Test.YtmlhjobmpjpmnaaDoorNwDoorSrc
import Derived.Test.YtmlhjobmpjpmnaaDoorNwCall
import Derived.Test.YtmlhjobmpjpmnaaDoorRows
import Derived.LaidMore
import Derived.OpenShut
import Derived.MakeChecks
set_option linter.all false
set_option linter.unusedVariables false
set_option linter.unusedSimpArgs false
set_option linter.unusedSectionVars false
namespace Go.Nw.DM
open Go.Proofs Go.Nw.Door Go.RowKit
instance cfg : Cfg := ⟨fun g => if g = 0 then some gt_0 else if g = 1 then some gt_1 else none, fun _ => false⟩
theorem u8s {P : Program} {w : World} {t e : TypeId} {fuel : Nat} {cs : List Value} {q : List MemPlace} {n : Nat} {l : List Int} (ht : P.underlying t = some (.array n e)) (he : P.underlying e = some (.int .u8)) (hc : P.cellsOf e = 1) (hc' : P.cellsOf t = n)
    (h : DataW.trod (fun _ => ()) P w 0 (fun _ => true) false fuel t cs = some (.agg (l.map fun x => .lit (.int .u8 x)), q)) : cs = l.map (Value.int .u8) := by
  obtain ⟨xs, m, rfl, hx, hlen, hn, hel⟩ := DataW.trod_array ht h
  simp only [Prod.mk.injEq, DataW.agg.injEq] at hx
  have hl : l.length = n := by have := congrArg List.length hx.1; simpa [hn] using this
  apply List.ext_getElem
  · rw [hlen, hc', List.length_map, hl]
  · intro i h1 h2
    have hin : i < n := by rw [hlen, hc'] at h1; exact h1
    have := hel i hin
    have hix : i < xs.length := by rw [hn]; exact hin
    rw [List.getElem?_eq_getElem hix] at this
    obtain ⟨k, e1, e2, _⟩ := DataW.trod_int he this
    rw [hc, Nat.mul_one, List.drop_eq_getElem_cons h1, List.take_succ_cons, List.take_zero] at e1
    have hk : cs[i] = .int .u8 k := by simpa using e1
    have hd : (l.map fun x => (DataW.lit (.int .u8 x) : DataW Unit))[i]? = some (.lit (.int .u8 k)) := by
      rw [hx.1, List.getElem?_map, List.getElem?_eq_getElem hix, e2]; rfl
    rw [List.getElem?_map, List.getElem?_eq_getElem (by rw [hl]; exact hin)] at hd
    simp at hd
    rw [hk, List.getElem_map, hd]
theorem laid_at {W : World} (h : laidMetH Tryd.prog [("math/bits.deBruijn32tab", YtmlhjobmpjpmnaaDoor.Rows.laid_math_bits_deBruijn32tab), ("math/bits.deBruijn64tab", YtmlhjobmpjpmnaaDoor.Rows.laid_math_bits_deBruijn64tab)] W) : LaidAt W (fun b => b < W.heap.size) := by
  rw [MakeChecks.laidMetH_plain _ _ _ (by kernel_rfl)] at h
  obtain ⟨ps, ⟨g0, t0, cs0, f0, p0, q0, hg0, ht0, hv0, hd0, ⟨g1, t1, cs1, f1, p1, q1, hg1, ht1, hv1, hd1, _, _⟩, _⟩, _, _⟩ := h
  obtain rfl := Option.some.inj ((show Tryd.prog.globalNamed "math/bits.deBruijn32tab" = some 0 by kernel_rfl).symm.trans hg0)
  obtain rfl := Option.some.inj ((show Tryd.prog.globalNamed "math/bits.deBruijn64tab" = some 1 by kernel_rfl).symm.trans hg1)
  obtain rfl := Option.some.inj ((show (Tryd.prog.globals[0]?).map (·.type) = some 89 by kernel_rfl).symm.trans ht0)
  obtain rfl := Option.some.inj ((show (Tryd.prog.globals[1]?).map (·.type) = some 90 by kernel_rfl).symm.trans ht1)
  have u5 : Tryd.prog.underlying 5 = some (.int .u8) := by kernel_rfl
  have c5 : Tryd.prog.cellsOf 5 = 1 := by kernel_rfl
  have e0 : cs0.toList = gt_0 := u8s (n := 32) (by kernel_rfl) u5 c5 (by kernel_rfl) hd0
  have e1 : cs1.toList = gt_1 := u8s (n := 64) (by kernel_rfl) u5 c5 (by kernel_rfl) hd1
  have size : ∀ {n : String} {g : Nat} {cs : Array Value}, Tryd.prog.globalNamed n = some g → W.var? Tryd.prog n = some cs → g < W.heap.size := by
    intro n g cs hg hv
    simp only [World.var?, hg, Option.bind_some] at hv
    split at hv
    · rename_i e; exact (Array.getElem?_eq_some_iff.1 e).1
    · cases hv
  intro g cs hg
  by_cases z : g = 0
  · subst z
    obtain rfl : gt_0 = cs := Option.some.inj hg
    have hs := size hg0 hv0
    refine ⟨hs, hs, fun j v hj => ⟨?_, ?_⟩⟩
    · rw [World.var?_cell hg0 hv0 j, ← Array.getElem?_toList, e0, hj]
    · rw [gt_0_eq, List.getElem?_map] at hj
      cases hx : gl_0[j]? with
      | none => rw [hx] at hj; cases hj
      | some x => rw [hx] at hj; cases hj; rfl
  · by_cases z1 : g = 1
    · subst z1
      obtain rfl : gt_1 = cs := Option.some.inj hg
      have hs := size hg1 hv1
      refine ⟨hs, hs, fun j v hj => ⟨?_, ?_⟩⟩
      · rw [World.var?_cell hg1 hv1 j, ← Array.getElem?_toList, e1, hj]
      · rw [gt_1_eq, List.getElem?_map] at hj
        cases hx : gl_1[j]? with
        | none => rw [hx] at hj; cases hj
        | some x => rw [hx] at hj; cases hj; rfl
    · have : Cfg.tab g = none := by show (if g = 0 then some gt_0 else if g = 1 then some gt_1 else none) = none; rw [if_neg z, if_neg z1]
      rw [this] at hg; cases hg
theorem door_met (os : Os) (args : Array Value) : laidMetH Tryd.prog [("math/bits.deBruijn32tab", YtmlhjobmpjpmnaaDoor.Rows.laid_math_bits_deBruijn32tab), ("math/bits.deBruijn64tab", YtmlhjobmpjpmnaaDoor.Rows.laid_math_bits_deBruijn64tab)] ((World.doorLaid Tryd.prog 400 os).forCall (fun _ _ => 0) ⟨#[], args, []⟩).memory :=
  laidMetH_of_parts3 (fuel := 8) (laidMet_of_run' 8 (by kernel_rfl) (by kernel_rfl)) (by kernel_rfl) (by kernel_rfl)
end Go.Nw.DM
