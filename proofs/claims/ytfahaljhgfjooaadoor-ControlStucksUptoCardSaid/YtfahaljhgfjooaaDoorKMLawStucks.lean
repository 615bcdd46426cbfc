/- The law ControlStucks, closed over its plain law. -/
import Derived.Test.YtfahaljhgfjooaaDoorCards
import Derived.Test.YtfahaljhgfjooaaDoorTie
import Derived.SevenTiedAt
import Derived.Deep.DeepHandedRow
import Derived.Deep.DeepWitnessRowRef
import Derived.OpenShut
import Derived.Test.YtfahaljhgfjooaaDoorKMHasStucks
import Derived.Test.YtfahaljhgfjooaaDoorP3
import Derived.Test.YtfahaljhgfjooaaDoorNwLast
import Derived.Test.YtfahaljhgfjooaaDoorRows
import Derived.WalkKit
import Derived.ProofKit
set_option linter.all false
namespace Go.Proofs.YtfahaljhgfjooaaDoor.ControlStucks
open Go.Nw Go.Nw.KM Go.ChangeShapes Go.WideShapes Go.ChangeAt Go.RowKit
instance : Bd := ⟨1048576, by decide⟩
theorem own : ownKnob Tryd.prog.godebug = none := by kernel_rfl
theorem j5a : laidOutB Tryd.prog = true := by kernel_rfl
def b4y : Prop := ∀ (m : Go.Nw.KM.Machine) (c : l04_Conds), b88 m -> c4f c -> c2f m c = some true
theorem d9u (hp : b4y) (xs : List AV) (hZ : b7q [.agg d3p, .agg d3q] xs) : b0o Tryd.prog "newel/newellaw04.ControlStucks" xs (B true) [] := by
 obtain ⟨a0, xs, rfl, h0, g0⟩ := d9z hZ
 obtain ⟨a1, xs, rfl, h1, g1⟩ := d9z g0
 obtain ⟨m, rfl, hk0⟩ := l35 h0
 obtain ⟨c, rfl, hk1⟩ := l36 h1
 rw [j6g g1]
 exact (g5m m c true (hp m c hk0 hk1)).o
theorem g4o {H : Type} (d : DataW H) : 1 <= Rows.uptoBulk d := by
 cases d with
 | lit l => cases l <;> simp [Rows.uptoBulk]
 | nil => simp [Rows.uptoBulk]
 | ptr d => simp [Rows.uptoBulk]
 | slice elems spare => simp [Rows.uptoBulk]
 | agg parts => simp [Rows.uptoBulk]
 | iface t d => simp [Rows.uptoBulk]
 | map entries => simp [Rows.uptoBulk]
 | held h => simp [Rows.uptoBulk]
theorem c9v {H : Type} {d : DataW H} {l : List (DataW H)} (h : d ∈ l) : Rows.uptoBulk d <= Rows.uptoBulkAll l := by
 induction l with
 | nil => cases h
 | cons x r ih =>
  simp only [Rows.uptoBulkAll]
  rcases List.mem_cons.1 h with rfl | e
  ·omega
  ·have := ih e; omega
theorem g4n {H : Type} (l : List (DataW H)) : l.length <= Rows.uptoBulkAll l := by
 induction l with
 | nil => simp [Rows.uptoBulkAll]
 | cons x r ih => have := g4o x; simp only [Rows.uptoBulkAll, List.length_cons]; omega
theorem g4m {H : Type} : BulkOk (H := H) Rows.uptoBulk := by
 refine ⟨fun es sp => ⟨?_, fun d hd => ?_⟩, fun ps d hd => ?_, fun b => ?_⟩
 ·have := g4n es; simp only [Rows.uptoBulk]; omega
 ·have := c9v hd; simp only [Rows.uptoBulk]; omega
 ·have := c9v hd; simp only [Rows.uptoBulk]; omega
 ·simp only [Rows.uptoBulk]; omega
theorem d3h (os : Os) {H : Type} (enc : TypeId × Value -> H) : ∃ places, DataW.whole enc Tryd.prog ((World.doorLaid Tryd.prog 400 os).forCall (fun _ _ => 0) ⟨#[], #[.agg #[.slice none 0 0, .slice none 0 0, .slice none 0 0, .slice none 0 0, .slice none 0 0], .agg #[.slice none 0 0, .slice none 0 0]], []⟩).memory Tryd.f4.params.toList Rows.controlStucksSpec.vars false (#[.agg #[.slice none 0 0, .slice none 0 0, .slice none 0 0, .slice none 0 0, .slice none 0 0], .agg #[.slice none 0 0, .slice none 0 0]] : Array Value).toList 8 = some ([.agg [.nil, .nil, .nil, .nil, .nil], .agg [.nil, .nil]], [], places) :=
 ⟨[], by kernel_rfl⟩
set_option maxRecDepth 100000 in
theorem j5h (hp : b4y) (os : Os) (started : os.Started) (H : Type) (enc : TypeId × Value -> H) (F : Stop.Interp) :
  ReturnsInHanded {} Tryd.checked os 4 .any ((Rows.OpenSpec.upto Rows.controlStucksSpec).preRow enc Tryd.prog Tryd.f4 Rows.controlStucksUptoRow.domain false Rows.controlStucksUptoRow.laid) (((Rows.OpenSpec.upto Rows.controlStucksSpec).at F).post enc Tryd.prog Tryd.f4 false true false false) := by
 obtain ⟨places, hx⟩ := d3h os enc
 refine returnsInHanded_of_row (C := Tryd.checked) (s := (Rows.OpenSpec.upto Rows.controlStucksSpec)) own started (by kernel_rfl) Tryd.func4
  (witness_row_atRef (enc := enc) (C := Tryd.checked) false (World.doorLaid Tryd.prog 400 os) #[.agg #[.slice none 0 0, .slice none 0 0, .slice none 0 0, .slice none 0 0, .slice none 0 0], .agg #[.slice none 0 0, .slice none 0 0]] rfl (by kernel_rfl) (by kernel_rfl) (by kernel_rfl)
   (OpenSpec.preRow_of_cond 8 hx (by kernel_rfl) (fun k hk => by cases hk; kernel_rfl) (by kernel_rfl) (g7t os _))) ?_
 intro W base args ds gs before hval hW _ hcond _ hL _ _
 exact j5d (bk := Rows.uptoBulk) (P := Tryd.prog) (fn := Tryd.f4) (s := Rows.controlStucksSpec) (tb := 4) (n := 8) (ss := [.agg d3p, .agg d3q]) Tryd.func4 j5a (by kernel_rfl) (by kernel_rfl) (by kernel_rfl) rfl
  (fun ds hd => by
   have hd2 : ds.length = 2 := hd
   match ds, hd2 with
   | [d0, d1], _ => rfl) (by kernel_rfl) (fun xs h => d9u hp xs h) W (j5b hL) base args ds gs before hval (fun d hd => .inr ⟨g4m, Nat.le_trans (c9v (List.mem_append_left gs hd)) (of_decide_eq_true (hcond _ rfl))⟩) hW
theorem l3a (hp : b4y) : Rows.ControlStucksUptoSaid :=
 OpenClaim.holds_of_cond 4 Tryd.f4 rfl rfl rfl rfl rfl rfl rfl ⟨rfl, rfl, rfl, rfl, rfl⟩ rfl rfl rfl rfl rfl (by kernel_rfl) Tryd.func4 (by kernel_rfl)
  (of_decide_eq_true (by kernel_rfl)) (by unfold Func.isWrapper; first | (rw [if_pos (by decide +kernel)]; kernel_rfl) | (rw [if_neg (by decide +kernel)]; exact ⟨rfl, rfl⟩))
  (fun os started H enc _ F => by rw [OpenClaim.pre_eq_preRow]; exact j5h hp os started H enc F)
theorem over (hp : b4y) : Rows.ControlStucksUptoCardSaid :=
 Claim7.holds_tied_plain_at .later [] _ _ _ _
  (l3a hp) (fun _ h => by cases h) (by kernel_rfl) (fun _ h => by cases h) controlStucksUpto_row_tie rfl ⟨rfl, rfl⟩ (by kernel_rfl) rfl
  (fun f fn hf hfn => by
   obtain rfl : f = 4 := Option.some.inj ((show Tryd.prog.funcNamed "newel/newellaw04.ControlStucks" = some 4 by kernel_rfl).symm.trans hf) |>.symm
   obtain rfl : fn = Tryd.f4 := (Option.some.inj (Tryd.func4.symm.trans hfn)).symm
   exact ⟨by kernel_rfl, fun j t ht => by
    have hm : t ∈ Tryd.f4.params.toList := by simpa using Array.mem_of_getElem? ht
    have hall : (Tryd.f4.params.toList.all fun u => !Tryd.prog.wantsStandIn u) = true := by kernel_rfl
    exact (show Tryd.prog.wantsStandIn t = false by simpa using List.all_eq_true.1 hall t hm)⟩)
  (by kernel_rfl)
end Go.Proofs.YtfahaljhgfjooaaDoor.ControlStucks
