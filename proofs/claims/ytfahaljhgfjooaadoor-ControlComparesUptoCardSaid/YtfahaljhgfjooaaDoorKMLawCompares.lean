/- The law ControlCompares, closed over its plain law. -/
import Derived.Test.YtfahaljhgfjooaaDoorCards
import Derived.Test.YtfahaljhgfjooaaDoorTie
import Derived.SevenTiedAt
import Derived.Deep.DeepHandedRow
import Derived.Deep.DeepWitnessRowRef
import Derived.OpenShut
import Derived.Test.YtfahaljhgfjooaaDoorKMHasCompares
import Derived.Test.YtfahaljhgfjooaaDoorP3
import Derived.Test.YtfahaljhgfjooaaDoorNwLast
import Derived.Test.YtfahaljhgfjooaaDoorRows
import Derived.WalkKit
import Derived.ProofKit
set_option linter.all false
namespace Go.Proofs.YtfahaljhgfjooaaDoor.ControlCompares
open Go.Nw Go.Nw.KM Go.ChangeShapes Go.WideShapes Go.ChangeAt Go.RowKit
instance : Bd := ⟨1048576, by decide⟩
theorem own : ownKnob Tryd.prog.godebug = none := by kernel_rfl
theorem j7e : laidOutB Tryd.prog = true := by kernel_rfl
def b5b : Prop := ∀ (a : Go.Nw.KM.Machine) (b : Go.Nw.KM.Machine) (c : l04_Conds), b9d a -> b9d b -> c54 c -> s34 a b c = some true
theorem g1u (hp : b5b) (xs : List AV) (hZ : b7z [.agg d43, .agg d43, .agg d44] xs) : b0n Tryd.prog "newel/newellaw04.ControlCompares" xs (B true) [] := by
 obtain ⟨a0, xs, rfl, h0, g0⟩ := g1z hZ
 obtain ⟨a1, xs, rfl, h1, g1⟩ := g1z g0
 obtain ⟨a2, xs, rfl, h2, g2⟩ := g1z g1
 obtain ⟨a, rfl, hk0⟩ := l52 h0
 obtain ⟨b, rfl, hk1⟩ := l52 h1
 obtain ⟨c, rfl, hk2⟩ := l53 h2
 rw [j8l g2]
 exact (s44 a b c true (hp a b c hk0 hk1 hk2)).o
theorem g6z {H : Type} (d : DataW H) : 1 <= Rows.uptoBulk d := by
 cases d with
 | lit l => cases l <;> simp [Rows.uptoBulk]
 | nil => simp [Rows.uptoBulk]
 | ptr d => simp [Rows.uptoBulk]
 | slice elems spare => simp [Rows.uptoBulk]
 | agg parts => simp [Rows.uptoBulk]
 | iface t d => simp [Rows.uptoBulk]
 | map entries => simp [Rows.uptoBulk]
 | held h => simp [Rows.uptoBulk]
theorem d09 {H : Type} {d : DataW H} {l : List (DataW H)} (h : d ∈ l) : Rows.uptoBulk d <= Rows.uptoBulkAll l := by
 induction l with
 | nil => cases h
 | cons x r ih =>
  simp only [Rows.uptoBulkAll]
  rcases List.mem_cons.1 h with rfl | e
  ·omega
  ·have := ih e; omega
theorem g6y {H : Type} (l : List (DataW H)) : l.length <= Rows.uptoBulkAll l := by
 induction l with
 | nil => simp [Rows.uptoBulkAll]
 | cons x r ih => have := g6z x; simp only [Rows.uptoBulkAll, List.length_cons]; omega
theorem g6x {H : Type} : BulkOk (H := H) Rows.uptoBulk := by
 refine ⟨fun es sp => ⟨?_, fun d hd => ?_⟩, fun ps d hd => ?_, fun b => ?_⟩
 ·have := g6y es; simp only [Rows.uptoBulk]; omega
 ·have := d09 hd; simp only [Rows.uptoBulk]; omega
 ·have := d09 hd; simp only [Rows.uptoBulk]; omega
 ·simp only [Rows.uptoBulk]; omega
theorem d4u (os : Os) {H : Type} (enc : TypeId × Value -> H) : ∃ places, DataW.whole enc Tryd.prog ((World.doorLaid Tryd.prog 400 os).forCall (fun _ _ => 0) ⟨#[], #[.agg #[.slice none 0 0, .slice none 0 0, .slice none 0 0, .slice none 0 0, .slice none 0 0], .agg #[.slice none 0 0, .slice none 0 0, .slice none 0 0, .slice none 0 0, .slice none 0 0], .agg #[.slice none 0 0, .slice none 0 0]], []⟩).memory Tryd.f11.params.toList Rows.controlComparesSpec.vars false (#[.agg #[.slice none 0 0, .slice none 0 0, .slice none 0 0, .slice none 0 0, .slice none 0 0], .agg #[.slice none 0 0, .slice none 0 0, .slice none 0 0, .slice none 0 0, .slice none 0 0], .agg #[.slice none 0 0, .slice none 0 0]] : Array Value).toList 8 = some ([.agg [.nil, .nil, .nil, .nil, .nil], .agg [.nil, .nil, .nil, .nil, .nil], .agg [.nil, .nil]], [], places) :=
 ⟨[], by kernel_rfl⟩
set_option maxRecDepth 100000 in
theorem j7l (hp : b5b) (os : Os) (started : os.Started) (H : Type) (enc : TypeId × Value -> H) (F : Stop.Interp) :
  ReturnsInHanded {} Tryd.checked os 11 .any ((Rows.OpenSpec.upto Rows.controlComparesSpec).preRow enc Tryd.prog Tryd.f11 Rows.controlComparesUptoRow.domain false Rows.controlComparesUptoRow.laid) (((Rows.OpenSpec.upto Rows.controlComparesSpec).at F).post enc Tryd.prog Tryd.f11 false true false false) := by
 obtain ⟨places, hx⟩ := d4u os enc
 refine returnsInHanded_of_row (C := Tryd.checked) (s := (Rows.OpenSpec.upto Rows.controlComparesSpec)) own started (by kernel_rfl) Tryd.func11
  (witness_row_atRef (enc := enc) (C := Tryd.checked) false (World.doorLaid Tryd.prog 400 os) #[.agg #[.slice none 0 0, .slice none 0 0, .slice none 0 0, .slice none 0 0, .slice none 0 0], .agg #[.slice none 0 0, .slice none 0 0, .slice none 0 0, .slice none 0 0, .slice none 0 0], .agg #[.slice none 0 0, .slice none 0 0]] rfl (by kernel_rfl) (by kernel_rfl) (by kernel_rfl)
   (OpenSpec.preRow_of_cond 8 hx (by kernel_rfl) (fun k hk => by cases hk; kernel_rfl) (by kernel_rfl) (g9w os _))) ?_
 intro W base args ds gs before hval hW _ hcond _ hL _ _
 exact j7h (bk := Rows.uptoBulk) (P := Tryd.prog) (fn := Tryd.f11) (s := Rows.controlComparesSpec) (tb := 4) (n := 8) (ss := [.agg d43, .agg d43, .agg d44]) Tryd.func11 j7e (by kernel_rfl) (by kernel_rfl) (by kernel_rfl) rfl
  (fun ds hd => by
   have hd2 : ds.length = 3 := hd
   match ds, hd2 with
   | [d0, d1, d2], _ => rfl) (by kernel_rfl) (fun xs h => g1u hp xs h) W (j7f hL) base args ds gs before hval (fun d hd => .inr ⟨g6x, Nat.le_trans (d09 (List.mem_append_left gs hd)) (of_decide_eq_true (hcond _ rfl))⟩) hW
theorem l5c (hp : b5b) : Rows.ControlComparesUptoSaid :=
 OpenClaim.holds_of_cond 11 Tryd.f11 rfl rfl rfl rfl rfl rfl rfl ⟨rfl, rfl, rfl, rfl, rfl⟩ rfl rfl rfl rfl rfl (by kernel_rfl) Tryd.func11 (by kernel_rfl)
  (of_decide_eq_true (by kernel_rfl)) (by unfold Func.isWrapper; first | (rw [if_pos (by decide +kernel)]; kernel_rfl) | (rw [if_neg (by decide +kernel)]; exact ⟨rfl, rfl⟩))
  (fun os started H enc _ F => by rw [OpenClaim.pre_eq_preRow]; exact j7l hp os started H enc F)
theorem over (hp : b5b) : Rows.ControlComparesUptoCardSaid :=
 Claim7.holds_tied_plain_at .later [] _ _ _ _
  (l5c hp) (fun _ h => by cases h) (by kernel_rfl) (fun _ h => by cases h) controlComparesUpto_row_tie rfl ⟨rfl, rfl⟩ (by kernel_rfl) rfl
  (fun f fn hf hfn => by
   obtain rfl : f = 11 := Option.some.inj ((show Tryd.prog.funcNamed "newel/newellaw04.ControlCompares" = some 11 by kernel_rfl).symm.trans hf) |>.symm
   obtain rfl : fn = Tryd.f11 := (Option.some.inj (Tryd.func11.symm.trans hfn)).symm
   exact ⟨by kernel_rfl, fun j t ht => by
    have hm : t ∈ Tryd.f11.params.toList := by simpa using Array.mem_of_getElem? ht
    have hall : (Tryd.f11.params.toList.all fun u => !Tryd.prog.wantsStandIn u) = true := by kernel_rfl
    exact (show Tryd.prog.wantsStandIn t = false by simpa using List.all_eq_true.1 hall t hm)⟩)
  (by kernel_rfl)
end Go.Proofs.YtfahaljhgfjooaaDoor.ControlCompares
