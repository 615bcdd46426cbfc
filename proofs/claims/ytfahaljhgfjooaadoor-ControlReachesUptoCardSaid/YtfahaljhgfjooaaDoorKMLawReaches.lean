/- The law ControlReaches, closed over its plain law. -/
import Derived.Test.YtfahaljhgfjooaaDoorCards
import Derived.Test.YtfahaljhgfjooaaDoorTie
import Derived.SevenTiedAt
import Derived.Deep.DeepHandedRow
import Derived.Deep.DeepWitnessRowRef
import Derived.OpenShut
import Derived.Test.YtfahaljhgfjooaaDoorKMHasReaches
import Derived.Test.YtfahaljhgfjooaaDoorP3
import Derived.Test.YtfahaljhgfjooaaDoorNwLast
import Derived.Test.YtfahaljhgfjooaaDoorRows
import Derived.WalkKit
import Derived.ProofKit
set_option linter.all false
namespace Go.Proofs.YtfahaljhgfjooaaDoor.ControlReaches
open Go.Nw Go.Nw.KM Go.ChangeShapes Go.WideShapes Go.ChangeAt Go.RowKit
instance : Bd := ⟨1048576, by decide⟩
theorem own : ownKnob Tryd.prog.godebug = none := by kernel_rfl
theorem j2s : laidOutB Tryd.prog = true := by kernel_rfl
def b42 : Prop := ∀ (m : Go.Nw.KM.Machine) (c : l04_Conds), b8g m -> c3m c -> c1f m c = some true
theorem d71 (hp : b42) (xs : List AV) (hZ : b7c [.agg d12, .agg d13] xs) : b0n Tryd.prog "newel/newellaw04.ControlReaches" xs (B true) [] := by
 obtain ⟨a0, xs, rfl, h0, g0⟩ := d76 hZ
 obtain ⟨a1, xs, rfl, h1, g1⟩ := d76 g0
 obtain ⟨m, rfl, hk0⟩ := l03 h0
 obtain ⟨c, rfl, hk1⟩ := l04 h1
 rw [j3y g1]
 exact (g3d m c true (hp m c hk0 hk1)).o
theorem g2k {H : Type} (d : DataW H) : 1 <= Rows.uptoBulk d := by
 cases d with
 | lit l => cases l <;> simp [Rows.uptoBulk]
 | nil => simp [Rows.uptoBulk]
 | ptr d => simp [Rows.uptoBulk]
 | slice elems spare => simp [Rows.uptoBulk]
 | agg parts => simp [Rows.uptoBulk]
 | iface t d => simp [Rows.uptoBulk]
 | map entries => simp [Rows.uptoBulk]
 | held h => simp [Rows.uptoBulk]
theorem c8j {H : Type} {d : DataW H} {l : List (DataW H)} (h : d ∈ l) : Rows.uptoBulk d <= Rows.uptoBulkAll l := by
 induction l with
 | nil => cases h
 | cons x r ih =>
  simp only [Rows.uptoBulkAll]
  rcases List.mem_cons.1 h with rfl | e
  ·omega
  ·have := ih e; omega
theorem g2j {H : Type} (l : List (DataW H)) : l.length <= Rows.uptoBulkAll l := by
 induction l with
 | nil => simp [Rows.uptoBulkAll]
 | cons x r ih => have := g2k x; simp only [Rows.uptoBulkAll, List.length_cons]; omega
theorem g2i {H : Type} : BulkOk (H := H) Rows.uptoBulk := by
 refine ⟨fun es sp => ⟨?_, fun d hd => ?_⟩, fun ps d hd => ?_, fun b => ?_⟩
 ·have := g2j es; simp only [Rows.uptoBulk]; omega
 ·have := c8j hd; simp only [Rows.uptoBulk]; omega
 ·have := c8j hd; simp only [Rows.uptoBulk]; omega
 ·simp only [Rows.uptoBulk]; omega
theorem d1u (os : Os) {H : Type} (enc : TypeId × Value -> H) : ∃ places, DataW.whole enc Tryd.prog ((World.doorLaid Tryd.prog 400 os).forCall (fun _ _ => 0) ⟨#[], #[.agg #[.slice none 0 0, .slice none 0 0, .slice none 0 0, .slice none 0 0, .slice none 0 0], .agg #[.slice none 0 0, .slice none 0 0]], []⟩).memory Tryd.f3.params.toList Rows.controlReachesSpec.vars false (#[.agg #[.slice none 0 0, .slice none 0 0, .slice none 0 0, .slice none 0 0, .slice none 0 0], .agg #[.slice none 0 0, .slice none 0 0]] : Array Value).toList 8 = some ([.agg [.nil, .nil, .nil, .nil, .nil], .agg [.nil, .nil]], [], places) :=
 ⟨[], by kernel_rfl⟩
set_option maxRecDepth 100000 in
theorem j2z (hp : b42) (os : Os) (started : os.Started) (H : Type) (enc : TypeId × Value -> H) (F : Stop.Interp) :
  ReturnsInHanded {} Tryd.checked os 3 .any ((Rows.OpenSpec.upto Rows.controlReachesSpec).preRow enc Tryd.prog Tryd.f3 Rows.controlReachesUptoRow.domain false Rows.controlReachesUptoRow.laid) (((Rows.OpenSpec.upto Rows.controlReachesSpec).at F).post enc Tryd.prog Tryd.f3 false true false false) := by
 obtain ⟨places, hx⟩ := d1u os enc
 refine returnsInHanded_of_row (C := Tryd.checked) (s := (Rows.OpenSpec.upto Rows.controlReachesSpec)) own started (by kernel_rfl) Tryd.func3
  (witness_row_atRef (enc := enc) (C := Tryd.checked) false (World.doorLaid Tryd.prog 400 os) #[.agg #[.slice none 0 0, .slice none 0 0, .slice none 0 0, .slice none 0 0, .slice none 0 0], .agg #[.slice none 0 0, .slice none 0 0]] rfl (by kernel_rfl) (by kernel_rfl) (by kernel_rfl)
   (OpenSpec.preRow_of_cond 8 hx (by kernel_rfl) (fun k hk => by cases hk; kernel_rfl) (by kernel_rfl) (g5h os _))) ?_
 intro W base args ds gs before hval hW _ hcond _ hL _ _
 exact j2v (bk := Rows.uptoBulk) (P := Tryd.prog) (fn := Tryd.f3) (s := Rows.controlReachesSpec) (tb := 4) (n := 8) (ss := [.agg d12, .agg d13]) Tryd.func3 j2s (by kernel_rfl) (by kernel_rfl) (by kernel_rfl) rfl
  (fun ds hd => by
   have hd2 : ds.length = 2 := hd
   match ds, hd2 with
   | [d0, d1], _ => rfl) (by kernel_rfl) (fun xs h => d71 hp xs h) W (j2t hL) base args ds gs before hval (fun d hd => .inr ⟨g2i, Nat.le_trans (c8j (List.mem_append_left gs hd)) (of_decide_eq_true (hcond _ rfl))⟩) hW
theorem l0c (hp : b42) : Rows.ControlReachesUptoSaid :=
 OpenClaim.holds_of_cond 3 Tryd.f3 rfl rfl rfl rfl rfl rfl rfl ⟨rfl, rfl, rfl, rfl, rfl⟩ rfl rfl rfl rfl rfl (by kernel_rfl) Tryd.func3 (by kernel_rfl)
  (of_decide_eq_true (by kernel_rfl)) (by unfold Func.isWrapper; first | (rw [if_pos (by decide +kernel)]; kernel_rfl) | (rw [if_neg (by decide +kernel)]; exact ⟨rfl, rfl⟩))
  (fun os started H enc _ F => by rw [OpenClaim.pre_eq_preRow]; exact j2z hp os started H enc F)
theorem over (hp : b42) : Rows.ControlReachesUptoCardSaid :=
 Claim7.holds_tied_plain_at .later [] _ _ _ _
  (l0c hp) (fun _ h => by cases h) (by kernel_rfl) (fun _ h => by cases h) controlReachesUpto_row_tie rfl ⟨rfl, rfl⟩ (by kernel_rfl) rfl
  (fun f fn hf hfn => by
   obtain rfl : f = 3 := Option.some.inj ((show Tryd.prog.funcNamed "newel/newellaw04.ControlReaches" = some 3 by kernel_rfl).symm.trans hf) |>.symm
   obtain rfl : fn = Tryd.f3 := (Option.some.inj (Tryd.func3.symm.trans hfn)).symm
   exact ⟨by kernel_rfl, fun j t ht => by
    have hm : t ∈ Tryd.f3.params.toList := by simpa using Array.mem_of_getElem? ht
    have hall : (Tryd.f3.params.toList.all fun u => !Tryd.prog.wantsStandIn u) = true := by kernel_rfl
    exact (show Tryd.prog.wantsStandIn t = false by simpa using List.all_eq_true.1 hall t hm)⟩)
  (by kernel_rfl)
end Go.Proofs.YtfahaljhgfjooaaDoor.ControlReaches
