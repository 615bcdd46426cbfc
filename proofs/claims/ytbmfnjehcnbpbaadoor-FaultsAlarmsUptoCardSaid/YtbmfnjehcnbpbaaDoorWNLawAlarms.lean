/- The law FaultsAlarms, closed over its plain law. -/
import Derived.Test.YtbmfnjehcnbpbaaDoorCards
import Derived.Test.YtbmfnjehcnbpbaaDoorTie
import Derived.SevenTiedAt
import Derived.Deep.DeepHandedRow
import Derived.Deep.DeepWitnessRowRef
import Derived.OpenShut
import Derived.Test.YtbmfnjehcnbpbaaDoorWNHasAlarms
import Derived.Test.YtbmfnjehcnbpbaaDoorP4
import Derived.Test.YtbmfnjehcnbpbaaDoorNwLast
import Derived.Test.YtbmfnjehcnbpbaaDoorRows
import Derived.WalkKit
import Derived.ProofKit
set_option linter.all false
namespace Go.Proofs.YtbmfnjehcnbpbaaDoor.FaultsAlarms
open Go.Nw Go.Nw.WN Go.ChangeShapes Go.WideShapes Go.ChangeAt Go.RowKit
instance : Bd := ⟨1048576, by decide⟩
theorem own : ownKnob Tryd.prog.godebug = none := by kernel_rfl
theorem j7e : laidOutB Tryd.prog = true := by kernel_rfl
def b5b : Prop := ∀ (p : Plant) (seen : List Bool), D1a p -> (OkL (fun _ : Bool => True)) seen -> D9x p seen = some true
theorem g1u (hp : b5b) (xs : List AV) (hZ : b7z [.agg D2t, .c D2s] xs) : b0n Tryd.prog "newel/newellaw10.FaultsAlarms" xs (B true) [] := by
 obtain ⟨a0, xs, rfl, h0, g0⟩ := g1z hZ
 obtain ⟨a1, xs, rfl, h1, g1⟩ := g1z g0
 obtain ⟨p, rfl, hk0⟩ := D6n h0
 obtain ⟨seen, rfl, hk1⟩ := D6m h1
 rw [j8l g1]
 exact (E13 p seen true (hp p seen hk0 hk1)).o
theorem g6z {H : Type} (d : DataW H) : 1 <= Rows.uptoBulk d := by
 cases d with
 | lit l => cases l <;> simp [Rows.uptoBulk]
 | nil => simp [Rows.uptoBulk]
 | ptr d => simp [Rows.uptoBulk]
 | slice elems spare => simp [Rows.uptoBulk]
 | agg parts => simp [Rows.uptoBulk]
 | iface t d => simp [Rows.uptoBulk]
 | map entries => simp [Rows.uptoBulk]
 | held h => simp [Rows.uptoBulk]
theorem d09 {H : Type} {d : DataW H} {l : List (DataW H)} (h : d ∈ l) : Rows.uptoBulk d <= Rows.uptoBulkAll l := by
 induction l with
 | nil => cases h
 | cons x r ih =>
  simp only [Rows.uptoBulkAll]
  rcases List.mem_cons.1 h with rfl | e
  ·omega
  ·have := ih e; omega
theorem g6y {H : Type} (l : List (DataW H)) : l.length <= Rows.uptoBulkAll l := by
 induction l with
 | nil => simp [Rows.uptoBulkAll]
 | cons x r ih => have := g6z x; simp only [Rows.uptoBulkAll, List.length_cons]; omega
theorem g6x {H : Type} : BulkOk (H := H) Rows.uptoBulk := by
 refine ⟨fun es sp => ⟨?_, fun d hd => ?_⟩, fun ps d hd => ?_, fun b => ?_⟩
 ·have := g6y es; simp only [Rows.uptoBulk]; omega
 ·have := d09 hd; simp only [Rows.uptoBulk]; omega
 ·have := d09 hd; simp only [Rows.uptoBulk]; omega
 ·simp only [Rows.uptoBulk]; omega
theorem d4u (os : Os) {H : Type} (enc : TypeId × Value -> H) : ∃ places, DataW.whole enc Tryd.prog ((World.doorLaid Tryd.prog 400 os).forCall (fun _ _ => 0) ⟨#[], #[.agg #[.int .i64 0, .slice none 0 0], .slice none 0 0], []⟩).memory Tryd.f4.params.toList Rows.faultsAlarmsSpec.vars false (#[.agg #[.int .i64 0, .slice none 0 0], .slice none 0 0] : Array Value).toList 8 = some ([.agg [.lit (.int .i64 0), .nil], .nil], [], places) :=
 ⟨[], by kernel_rfl⟩
set_option maxRecDepth 100000 in
theorem j7l (hp : b5b) (os : Os) (started : os.Started) (H : Type) (enc : TypeId × Value -> H) (F : Stop.Interp) :
  ReturnsInHanded {} Tryd.checked os 4 .any ((Rows.OpenSpec.upto Rows.faultsAlarmsSpec).preRow enc Tryd.prog Tryd.f4 Rows.faultsAlarmsUptoRow.domain false Rows.faultsAlarmsUptoRow.laid) (((Rows.OpenSpec.upto Rows.faultsAlarmsSpec).at F).post enc Tryd.prog Tryd.f4 false true false false) := by
 obtain ⟨places, hx⟩ := d4u os enc
 refine returnsInHanded_of_row (C := Tryd.checked) (s := (Rows.OpenSpec.upto Rows.faultsAlarmsSpec)) own started (by kernel_rfl) Tryd.func4
  (witness_row_atRef (enc := enc) (C := Tryd.checked) false (World.doorLaid Tryd.prog 400 os) #[.agg #[.int .i64 0, .slice none 0 0], .slice none 0 0] rfl (by kernel_rfl) (by kernel_rfl) (by kernel_rfl)
   (OpenSpec.preRow_of_cond 8 hx (by kernel_rfl) (fun k hk => by cases hk; kernel_rfl) (by kernel_rfl) (g9w os _))) ?_
 intro W base args ds gs before hval hW _ hcond _ hL _ _
 exact j7h (bk := Rows.uptoBulk) (P := Tryd.prog) (fn := Tryd.f4) (s := Rows.faultsAlarmsSpec) (tb := 4) (n := 8) (ss := [.agg D2t, .c D2s]) Tryd.func4 j7e (by kernel_rfl) (by kernel_rfl) (by kernel_rfl) rfl
  (fun ds hd => by
   have hd2 : ds.length = 2 := hd
   match ds, hd2 with
   | [d0, d1], _ => rfl) (by kernel_rfl) (fun xs h => g1u hp xs h) W (j7f hL) base args ds gs before hval (fun d hd => .inr ⟨g6x, Nat.le_trans (d09 (List.mem_append_left gs hd)) (of_decide_eq_true (hcond _ rfl))⟩) hW
theorem l5c (hp : b5b) : Rows.FaultsAlarmsUptoSaid :=
 OpenClaim.holds_of_cond 4 Tryd.f4 rfl rfl rfl rfl rfl rfl rfl ⟨rfl, rfl, rfl, rfl, rfl⟩ rfl rfl rfl rfl rfl (by kernel_rfl) Tryd.func4 (by kernel_rfl)
  (of_decide_eq_true (by kernel_rfl)) (by unfold Func.isWrapper; first | (rw [if_pos (by decide +kernel)]; kernel_rfl) | (rw [if_neg (by decide +kernel)]; exact ⟨rfl, rfl⟩))
  (fun os started H enc _ F => by rw [OpenClaim.pre_eq_preRow]; exact j7l hp os started H enc F)
theorem over (hp : b5b) : Rows.FaultsAlarmsUptoCardSaid :=
 Claim7.holds_tied_plain_at .later [] _ _ _ _
  (l5c hp) (fun _ h => by cases h) (by kernel_rfl) (fun _ h => by cases h) faultsAlarmsUpto_row_tie rfl ⟨rfl, rfl⟩ (by kernel_rfl) rfl
  (fun f fn hf hfn => by
   obtain rfl : f = 4 := Option.some.inj ((show Tryd.prog.funcNamed "newel/newellaw10.FaultsAlarms" = some 4 by kernel_rfl).symm.trans hf) |>.symm
   obtain rfl : fn = Tryd.f4 := (Option.some.inj (Tryd.func4.symm.trans hfn)).symm
   exact ⟨by kernel_rfl, fun j t ht => by
    have hm : t ∈ Tryd.f4.params.toList := by simpa using Array.mem_of_getElem? ht
    have hall : (Tryd.f4.params.toList.all fun u => !Tryd.prog.wantsStandIn u) = true := by kernel_rfl
    exact (show Tryd.prog.wantsStandIn t = false by simpa using List.all_eq_true.1 hall t hm)⟩)
  (by kernel_rfl)
end Go.Proofs.YtbmfnjehcnbpbaaDoor.FaultsAlarms
