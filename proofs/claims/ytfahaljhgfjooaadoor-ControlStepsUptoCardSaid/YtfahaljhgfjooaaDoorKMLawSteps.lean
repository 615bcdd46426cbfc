/- The law ControlSteps, closed over its plain law. -/
import Derived.Test.YtfahaljhgfjooaaDoorCards
import Derived.Test.YtfahaljhgfjooaaDoorTie
import Derived.SevenTiedAt
import Derived.Deep.DeepHandedRow
import Derived.Deep.DeepWitnessRowRef
import Derived.OpenShut
import Derived.Test.YtfahaljhgfjooaaDoorKMHasSteps
import Derived.Test.YtfahaljhgfjooaaDoorP3
import Derived.Test.YtfahaljhgfjooaaDoorNwLast
import Derived.Test.YtfahaljhgfjooaaDoorRows
import Derived.WalkKit
import Derived.ProofKit
set_option linter.all false
namespace Go.Proofs.YtfahaljhgfjooaaDoor.ControlSteps
open Go.Nw Go.Nw.KM Go.ChangeShapes Go.WideShapes Go.ChangeAt Go.RowKit
instance : Bd := ⟨1048576, by decide⟩
theorem own : ownKnob Tryd.prog.godebug = none := by kernel_rfl
theorem j0i : laidOutB Tryd.prog = true := by kernel_rfl
def b4v : Prop := ∀ (m : Go.Nw.KM.Machine) (p : Go.Nw.KM.Place) (inputs : List Int), b79 m -> c2r p -> (OkL b2u) inputs -> c0u m p inputs = some true
theorem d6m (hp : b4v) (xs : List AV) (hZ : b69 [.agg d0o, .agg d0p, .c d0n] xs) : b0n Tryd.prog "newel/newellaw04.ControlSteps" xs (B true) [] := by
 obtain ⟨a0, xs, rfl, h0, g0⟩ := c90 hZ
 obtain ⟨a1, xs, rfl, h1, g1⟩ := c90 g0
 obtain ⟨a2, xs, rfl, h2, g2⟩ := c90 g1
 obtain ⟨m, rfl, hk0⟩ := j8m h0
 obtain ⟨p, rfl, hk1⟩ := j8n h1
 obtain ⟨inputs, rfl, hk2⟩ := j8l h2
 rw [j1p g2]
 exact (g1m m p inputs true (hp m p inputs hk0 hk1 hk2)).o
theorem g0z {H : Type} (d : DataW H) : 1 <= Rows.uptoBulk d := by
 cases d with
 | lit l => cases l <;> simp [Rows.uptoBulk]
 | nil => simp [Rows.uptoBulk]
 | ptr d => simp [Rows.uptoBulk]
 | slice elems spare => simp [Rows.uptoBulk]
 | agg parts => simp [Rows.uptoBulk]
 | iface t d => simp [Rows.uptoBulk]
 | map entries => simp [Rows.uptoBulk]
 | held h => simp [Rows.uptoBulk]
theorem c7g {H : Type} {d : DataW H} {l : List (DataW H)} (h : d ∈ l) : Rows.uptoBulk d <= Rows.uptoBulkAll l := by
 induction l with
 | nil => cases h
 | cons x r ih =>
  simp only [Rows.uptoBulkAll]
  rcases List.mem_cons.1 h with rfl | e
  ·omega
  ·have := ih e; omega
theorem g0y {H : Type} (l : List (DataW H)) : l.length <= Rows.uptoBulkAll l := by
 induction l with
 | nil => simp [Rows.uptoBulkAll]
 | cons x r ih => have := g0z x; simp only [Rows.uptoBulkAll, List.length_cons]; omega
theorem g0x {H : Type} : BulkOk (H := H) Rows.uptoBulk := by
 refine ⟨fun es sp => ⟨?_, fun d hd => ?_⟩, fun ps d hd => ?_, fun b => ?_⟩
 ·have := g0y es; simp only [Rows.uptoBulk]; omega
 ·have := c7g hd; simp only [Rows.uptoBulk]; omega
 ·have := c7g hd; simp only [Rows.uptoBulk]; omega
 ·simp only [Rows.uptoBulk]; omega
theorem d0f (os : Os) {H : Type} (enc : TypeId × Value -> H) : ∃ places, DataW.whole enc Tryd.prog ((World.doorLaid Tryd.prog 400 os).forCall (fun _ _ => 0) ⟨#[], #[.agg #[.slice none 0 0, .slice none 0 0, .slice none 0 0, .slice none 0 0, .slice none 0 0], .agg #[.int .i64 0, .int .i64 0, .int .i64 0], .slice none 0 0], []⟩).memory Tryd.f9.params.toList Rows.controlStepsSpec.vars false (#[.agg #[.slice none 0 0, .slice none 0 0, .slice none 0 0, .slice none 0 0, .slice none 0 0], .agg #[.int .i64 0, .int .i64 0, .int .i64 0], .slice none 0 0] : Array Value).toList 8 = some ([.agg [.nil, .nil, .nil, .nil, .nil], .agg [.lit (.int .i64 0), .agg [.lit (.int .i64 0), .lit (.int .i64 0)]], .nil], [], places) :=
 ⟨[], by kernel_rfl⟩
set_option maxRecDepth 100000 in
theorem j0p (hp : b4v) (os : Os) (started : os.Started) (H : Type) (enc : TypeId × Value -> H) (F : Stop.Interp) :
  ReturnsInHanded {} Tryd.checked os 9 .any ((Rows.OpenSpec.upto Rows.controlStepsSpec).preRow enc Tryd.prog Tryd.f9 Rows.controlStepsUptoRow.domain false Rows.controlStepsUptoRow.laid) (((Rows.OpenSpec.upto Rows.controlStepsSpec).at F).post enc Tryd.prog Tryd.f9 false true false false) := by
 obtain ⟨places, hx⟩ := d0f os enc
 refine returnsInHanded_of_row (C := Tryd.checked) (s := (Rows.OpenSpec.upto Rows.controlStepsSpec)) own started (by kernel_rfl) Tryd.func9
  (witness_row_atRef (enc := enc) (C := Tryd.checked) false (World.doorLaid Tryd.prog 400 os) #[.agg #[.slice none 0 0, .slice none 0 0, .slice none 0 0, .slice none 0 0, .slice none 0 0], .agg #[.int .i64 0, .int .i64 0, .int .i64 0], .slice none 0 0] rfl (by kernel_rfl) (by kernel_rfl) (by kernel_rfl)
   (OpenSpec.preRow_of_cond 8 hx (by kernel_rfl) (fun k hk => by cases hk; kernel_rfl) (by kernel_rfl) (g3l os _))) ?_
 intro W base args ds gs before hval hW _ hcond _ hL _ _
 exact j0l (bk := Rows.uptoBulk) (P := Tryd.prog) (fn := Tryd.f9) (s := Rows.controlStepsSpec) (tb := 4) (n := 8) (ss := [.agg d0o, .agg d0p, .c d0n]) Tryd.func9 j0i (by kernel_rfl) (by kernel_rfl) (by kernel_rfl) rfl
  (fun ds hd => by
   have hd2 : ds.length = 3 := hd
   match ds, hd2 with
   | [d0, d1, d2], _ => rfl) (by kernel_rfl) (fun xs h => d6m hp xs h) W (j0j hL) base args ds gs before hval (fun d hd => .inr ⟨g0x, Nat.le_trans (c7g (List.mem_append_left gs hd)) (of_decide_eq_true (hcond _ rfl))⟩) hW
theorem j7u (hp : b4v) : Rows.ControlStepsUptoSaid :=
 OpenClaim.holds_of_cond 9 Tryd.f9 rfl rfl rfl rfl rfl rfl rfl ⟨rfl, rfl, rfl, rfl, rfl⟩ rfl rfl rfl rfl rfl (by kernel_rfl) Tryd.func9 (by kernel_rfl)
  (of_decide_eq_true (by kernel_rfl)) (by unfold Func.isWrapper; first | (rw [if_pos (by decide +kernel)]; kernel_rfl) | (rw [if_neg (by decide +kernel)]; exact ⟨rfl, rfl⟩))
  (fun os started H enc _ F => by rw [OpenClaim.pre_eq_preRow]; exact j0p hp os started H enc F)
theorem over (hp : b4v) : Rows.ControlStepsUptoCardSaid :=
 Claim7.holds_tied_plain_at .later [] _ _ _ _
  (j7u hp) (fun _ h => by cases h) (by kernel_rfl) (fun _ h => by cases h) controlStepsUpto_row_tie rfl ⟨rfl, rfl⟩ (by kernel_rfl) rfl
  (fun f fn hf hfn => by
   obtain rfl : f = 9 := Option.some.inj ((show Tryd.prog.funcNamed "newel/newellaw04.ControlSteps" = some 9 by kernel_rfl).symm.trans hf) |>.symm
   obtain rfl : fn = Tryd.f9 := (Option.some.inj (Tryd.func9.symm.trans hfn)).symm
   exact ⟨by kernel_rfl, fun j t ht => by
    have hm : t ∈ Tryd.f9.params.toList := by simpa using Array.mem_of_getElem? ht
    have hall : (Tryd.f9.params.toList.all fun u => !Tryd.prog.wantsStandIn u) = true := by kernel_rfl
    exact (show Tryd.prog.wantsStandIn t = false by simpa using List.all_eq_true.1 hall t hm)⟩)
  (by kernel_rfl)
end Go.Proofs.YtfahaljhgfjooaaDoor.ControlSteps
