/- Plain laws on the models. -/
import Derived.Test.YtfahaljhgfjooaaDoorNwCtlSrc
import Derived.Test.YtfahaljhgfjooaaDoorNwCall
import Derived.Test.YtfahaljhgfjooaaDoorRows
import Derived.LaidMore
import Derived.OpenShut
import Derived.MakeChecks
import Derived.Deep.Strs
import Derived.Test.YtfahaljhgfjooaaDoorNwRun2
import Derived.Test.YtfahaljhgfjooaaDoorNwHas
import Derived.Test.YtfahaljhgfjooaaDoorProg
set_option linter.all false
namespace Go.Nw.KM
open Go.Proofs Go.Nw.Ctl Go.RowKit Go.Deep
instance cfg : Cfg := ⟨fun g => if g = 0 then some b6h else none, fun f => (["(newel/situation.Plant).set", "slices.Reverse[[]int,int]"] : List String).contains f⟩
theorem g8z {w : World} {a : Addr} {v : Value} (h : w.cell? a = some v) : a.block < w.heap.size := by
 unfold World.cell? at h
 split at h
 ·rename_i hb; exact (Array.getElem?_eq_some_iff.1 hb).1
 ·cases h
theorem d8c : b50.length = 8 := rfl
theorem j7f {W : World} (h : laidMetH Tryd.prog [("newel/newelref04.words", YtfahaljhgfjooaaDoor.Rows.laid_newel_newelref04_words)] W) : r7j Tryd.prog W (fun b => b < W.heap.size) := by
 rw [MakeChecks.laidMetH_plain _ _ _ (by kernel_rfl)] at h
 obtain ⟨ps, ⟨g0, t0, cs0, f0, p0, q0, hg0, ht0, hv0, hd0, _, _⟩, _, _⟩ := h
 obtain rfl := Option.some.inj ((show Tryd.prog.globalNamed "newel/newelref04.words" = some 0 by kernel_rfl).symm.trans hg0)
 obtain rfl := Option.some.inj ((show (Tryd.prog.globals[0]?).map (·.type) = some 22 by kernel_rfl).symm.trans ht0)
 have size : ∀ {n : String} {g : Nat} {cs : Array Value}, Tryd.prog.globalNamed n = some g -> W.var? Tryd.prog n = some cs -> g < W.heap.size := by
  intro n g cs hg hv
  simp only [World.var?, hg, bS9] at hv
  split at hv
  ·rename_i e; exact (Array.getElem?_eq_some_iff.1 e).1
  ·cases hv
 have hs := size hg0 hv0
 intro g cs hg
 by_cases z : g = 0
 case neg =>
  have : Cfg.tab g = none := by show (if g = 0 then some b6h else none) = none; rw [if_neg z]
  rw [this] at hg; cases hg
 subst z
 obtain rfl : b6h = cs := Option.some.inj hg
 refine ⟨hs, hs, fun j c hj => ?_⟩
 have hw : (YtfahaljhgfjooaaDoor.Rows.laid_newel_newelref04_words (H := Unit)) = .slice (b50.map fun s => .lit (.string s)) [] := rfl
 rcases open_strs (e := 9) (by kernel_rfl) (by kernel_rfl) (by kernel_rfl) hd0 with ⟨_, h2⟩ | ⟨a, len, cap, m, Sx, hc, _, hlc, hcm, hm, hx, hcell⟩
 ·rw [hw] at h2; cases h2
 simp only [if_true] at hm
 subst hm
 rw [hw] at hx
 simp only [Prod.mk.injEq, DataW.slice.injEq] at hx
 have hlen : len = 8 := by have := congrArg List.length hx.1.1; simpa [d8c] using this.symm
 have hcap : m = len := by have := congrArg List.length hx.1.2; simp at this; omega
 subst hlen; subst hcap
 have hsx : ∀ i, i < 8 -> ∃ x, b50[i]? = some x /\ Sx i = ⟨x.toArray⟩ := fun i hi => by
  have := congrArg (fun l : List (DataW Unit) => l[i]?) hx.1.1
  simp only [List.getElem?_map, List.getElem?_range hi, Option.map_some] at this
  obtain ⟨x, h1, h2⟩ := mE9.1 this
  refine ⟨x, h1, ?_⟩
  simp only [DataW.lit.injEq, Lit.string.injEq] at h2
  rw [h2]
 obtain ⟨b, o, spot⟩ := a
 have hspot : spot = none := by
  have h1 := (hcell 0 (by decide)).1
  simpa [Addr.add] using World.cell?_spot h1
 subst hspot
 have hadd : ∀ k, (⟨b, o, none⟩ : Addr).add k = ⟨b, o + k, none⟩ := fun k => by
  unfold Addr.add; by_cases hk : k = 0 <;> simp [hk]
 have hb0 : b < W.heap.size := by
  have h1 := (hcell 0 (by decide)).1
  have := g8z h1
  rwa [hadd] at this
 cases j with
 | succ j => simp [b6h] at hj
 | zero =>
  obtain rfl : GC.sl 1 (b50.map fun s => [.string ⟨s.toArray⟩]) = c := by simpa [b6h] using hj
  refine ⟨.slice (some ⟨b, o, none⟩) 8 8, ?_, rfl, ?_⟩
  ·rw [World.var?_cell hg0 hv0 0, <- Array.getElem?_toList, hc]; rfl
  ·have hl : ((b50.map fun s => [Value.string ⟨s.toArray⟩]).map (List.map AV.v)).length = 8 := rfl
   have hat : ∀ i j c, at2 ((b50.map fun s => [Value.string ⟨s.toArray⟩]).map (List.map AV.v)) i j = some c -> i < 8 /\ j = 0 /\ c = .v (.string (Sx i)) := fun i j c hh => by
    unfold at2 at hh
    obtain ⟨row, h1, h2⟩ := bE9.1 hh
    simp only [List.map_map, List.getElem?_map, mE9] at h1
    obtain ⟨x, h3, h4⟩ := h1
    have hi : i < 8 := by have := (gS9.1 h3).1; simpa [d8c] using this
    obtain ⟨x', h5, h6⟩ := hsx i hi
    rw [h3] at h5; cases h5
    subst h4
    cases j with
    | zero => simp at h2; subst h2; exact ⟨hi, rfl, by rw [h6]⟩
    | succ j => simp at h2
   have sim : SimV Tryd.prog W (fun b => b < W.heap.size) Heap.empty (fun _ => (0, 0)) (.fs 1 ((b50.map fun s => [Value.string ⟨s.toArray⟩]).map (List.map AV.v))) (.slice (some ⟨b, o, none⟩) ((b50.map fun s => [Value.string ⟨s.toArray⟩]).map (List.map AV.v)).length 8) := by
    refine .fs 1 _ b o 8 (by rw [hl]; exact Nat.le_refl _) hb0 (fun e he => ?_) (fun i _ => .string (Sx i)) (fun i j c hh => ?_) (fun i j c hh => rfl) (fun i j c hh => ?_)
    ·obtain ⟨r, h1, rfl⟩ := List.mem_map.1 he
     obtain ⟨s, _, rfl⟩ := List.mem_map.1 h1
     rfl
    ·obtain ⟨h1, rfl, _⟩ := hat i j c hh
     have := (hcell i h1).1
     rw [hadd] at this
     rw [Nat.mul_one, Nat.add_zero]; exact this
    ·obtain ⟨_, _, rfl⟩ := hat i j c hh
     exact .v _
   rw [hl] at sim
   exact sim
theorem g9w (os : Os) (args : Array Value) : laidMetH Tryd.prog [("newel/newelref04.words", YtfahaljhgfjooaaDoor.Rows.laid_newel_newelref04_words)] ((World.doorLaid Tryd.prog 400 os).forCall (fun _ _ => 0) ⟨#[], args, []⟩).memory :=
 laidMetH_of_parts3 (fuel := 8) (laidMet_of_run' 8 (by kernel_rfl) (by kernel_rfl)) (by kernel_rfl) (by kernel_rfl)
end Go.Nw.KM
namespace Go.Nw.KM
open Go.Proofs Go.Nw.Ctl
set_option maxRecDepth 100000
def tbl : List (String × XFunc) := [("newel/newellaw04.works", x_l04_works), ("newel/newellaw04.Example", x_l04_Example), ("newel/control.Breach", x_control_Breach), ("newel/control.Classes", x_control_Classes), ("newel/newellaw04.sameInts", x_l04_sameInts), ("newel/control.check", x_control_check), ("newel/control.of", x_control_of), ("(newel/control.plant).breach", x__control_plant__breach), ("newel/control.same", x_control_same), ("newel/control.Check", x_control_Check), ("(newel/control.plant).explore", x__control_plant__explore), ("slices.IndexFunc[[]int,int]", x_slices_IndexFunc___int_int_), ("newel/control.Classes$1", x_control_ClassesD1), ("newel/situation.Asked", x_situation_Asked), ("(*newel/control.walk).first", x___control_walk__first), ("(newel/control.plant).breach$1", x__control_plant__breachD1), ("newel/situation.Check", x_situation_Check), ("(newel/situation.Plant).All", x__situation_Plant__All), ("(newel/situation.Plant).Allowed", x__situation_Plant__Allowed), ("(newel/situation.Plant).Step", x__situation_Plant__Step), ("slices.Equal[[]int,int]", x_slices_Equal___int_int_), ("slices.ContainsFunc[newel/api.Term,newel/api.Literal]", x_slices_ContainsFunc_api_Term_api_Literal_), ("newel/situation.Asked$1", x_situation_AskedD1), ("(*newel/control.walk).run", x___control_walk__run), ("(newel/situation.Plant).Holds", x__situation_Plant__Holds), ("newel/situation.within", x_situation_within), ("newel/situation.named", x_situation_named), ("newel/situation.Check$1", x_situation_CheckD1), ("(newel/situation.Plant).set", x__situation_Plant__set), ("slices.IndexFunc[newel/api.Term,newel/api.Literal]", x_slices_IndexFunc_api_Term_api_Literal_), ("newel/situation.asks", x_situation_asks), ("slices.Reverse[[]int,int]", x_slices_Reverse___int_int_), ("slices.ContainsFunc[newel/api.Cond,newel/api.Term]", x_slices_ContainsFunc_api_Cond_api_Term_), ("(newel/situation.Plant).Holds$1", x__situation_Plant__HoldsD1), ("newel/situation.names", x_situation_names), ("newel/situation.Plain", x_situation_Plain), ("newel/situation.Reserved", x_situation_Reserved), ("slices.IndexFunc[newel/api.Cond,newel/api.Term]", x_slices_IndexFunc_api_Cond_api_Term_), ("(newel/situation.Plant).Holds$1$1", x__situation_Plant__HoldsD1D1), ("slices.Concat[[]string,string]", x_slices_Concat___string_string_), ("(newel/situation.Plant).literal", x__situation_Plant__literal), ("slices.Grow[[]string,string]", x_slices_Grow___string_string_)]
theorem l5b : (match c4q tbl 40 "newel/newellaw04.works" [] [] with | some ([.v (.bool true)], _) => true | _ => false) = true := by kernel_rfl
theorem l6w : Has (b0n Tryd.prog) "newel/newellaw04.works" x_l04_works := b00 16 [] [] Tryd.func16 (by kernel_rfl) (by kernel_rfl)
theorem l6u : Has (b0n Tryd.prog) "newel/newellaw04.Example" x_l04_Example := b00 49 [] [] Tryd.func49 (by kernel_rfl) (by kernel_rfl)
theorem l6n : Has (b0n Tryd.prog) "newel/control.Breach" x_control_Breach := b00 25 [3] [] Tryd.func25 (by kernel_rfl) (by kernel_rfl)
theorem l6p : Has (b0n Tryd.prog) "newel/control.Classes" x_control_Classes := b00 35 [1, 47] [] Tryd.func35 (by kernel_rfl) (by kernel_rfl)
theorem l6v : Has (b0n Tryd.prog) "newel/newellaw04.sameInts" x_l04_sameInts := b00 24 [] [] Tryd.func24 (by kernel_rfl) (by kernel_rfl)
theorem l6r : Has (b0n Tryd.prog) "newel/control.check" x_control_check := b00 50 [2] [] Tryd.func50 (by kernel_rfl) (by kernel_rfl)
theorem l6s : Has (b0n Tryd.prog) "newel/control.of" x_control_of := b00 51 [1] [] Tryd.func51 (by kernel_rfl) (by kernel_rfl)
theorem l6c : Has (b0n Tryd.prog) "(newel/control.plant).breach" x__control_plant__breach := b00 55 [6, 4] [(4, 10)] Tryd.func55 (by kernel_rfl) (by kernel_rfl)
theorem l6t : Has (b0n Tryd.prog) "newel/control.same" x_control_same := b00 53 [] [] Tryd.func53 (by kernel_rfl) (by kernel_rfl)
theorem l6o : Has (b0n Tryd.prog) "newel/control.Check" x_control_Check := b00 68 [1] [] Tryd.func68 (by kernel_rfl) (by kernel_rfl)
theorem l6e : Has (b0n Tryd.prog) "(newel/control.plant).explore" x__control_plant__explore := b00 52 [3, 60, 53, 41] [(42, 11)] Tryd.func52 (by kernel_rfl) (by kernel_rfl)
theorem l7c : Has (b0n Tryd.prog) "slices.IndexFunc[[]int,int]" x_slices_IndexFunc___int_int_ := b00 76 [] [] Tryd.func76 (by kernel_rfl) (by kernel_rfl)
theorem l6q : Has (b0n Tryd.prog) "newel/control.Classes$1" x_control_ClassesD1 := b00 77 [] [] Tryd.func77 (by kernel_rfl) (by kernel_rfl)
theorem l6x : Has (b0n Tryd.prog) "newel/situation.Asked" x_situation_Asked := b00 85 [2] [] Tryd.func85 (by kernel_rfl) (by kernel_rfl)
theorem l6a : Has (b0n Tryd.prog) "(*newel/control.walk).first" x___control_walk__first := b00 61 [] [] Tryd.func61 (by kernel_rfl) (by kernel_rfl)
theorem l6d : Has (b0n Tryd.prog) "(newel/control.plant).breach$1" x__control_plant__breachD1 := b00 86 [] [] Tryd.func86 (by kernel_rfl) (by kernel_rfl)
theorem l6z : Has (b0n Tryd.prog) "newel/situation.Check" x_situation_Check := b00 93 [1, 138, 94, 85, 76, 68, 59, 47, 37, 30, 24, 18, 13] [] Tryd.func93 (by kernel_rfl) (by kernel_rfl)
theorem l6f : Has (b0n Tryd.prog) "(newel/situation.Plant).All" x__situation_Plant__All := b00 80 [1, 4, 3] [] Tryd.func80 (by kernel_rfl) (by kernel_rfl)
theorem l6g : Has (b0n Tryd.prog) "(newel/situation.Plant).Allowed" x__situation_Plant__Allowed := b00 81 [6, 4] [] Tryd.func81 (by kernel_rfl) (by kernel_rfl)
theorem l6k : Has (b0n Tryd.prog) "(newel/situation.Plant).Step" x__situation_Plant__Step := b00 71 [3, 12, 11] [] Tryd.func71 (by kernel_rfl) (by kernel_rfl)
theorem l7a : Has (b0n Tryd.prog) "slices.Equal[[]int,int]" x_slices_Equal___int_int_ := b00 78 [] [] Tryd.func78 (by kernel_rfl) (by kernel_rfl)
theorem l69 : Has (b0n Tryd.prog) "slices.ContainsFunc[newel/api.Term,newel/api.Literal]" x_slices_ContainsFunc_api_Term_api_Literal_ := b00 89 [] [] Tryd.func89 (by kernel_rfl) (by kernel_rfl)
theorem l6y : Has (b0n Tryd.prog) "newel/situation.Asked$1" x_situation_AskedD1 := b00 96 [2] [] Tryd.func96 (by kernel_rfl) (by kernel_rfl)
theorem l6b : Has (b0n Tryd.prog) "(*newel/control.walk).run" x___control_walk__run := b00 92 [] [] Tryd.func92 (by kernel_rfl) (by kernel_rfl)
theorem l6h : Has (b0n Tryd.prog) "(newel/situation.Plant).Holds" x__situation_Plant__Holds := b00 58 [7, 6, 4] [] Tryd.func58 (by kernel_rfl) (by kernel_rfl)
theorem l66 : Has (b0n Tryd.prog) "newel/situation.within" x_situation_within := b00 94 [] [] Tryd.func94 (by kernel_rfl) (by kernel_rfl)
theorem r4l : Has (b0n Tryd.prog) "newel/situation.named" x_situation_named := b00 101 [1] [] Tryd.func101 (by kernel_rfl) (by kernel_rfl)
theorem l60 : Has (b0n Tryd.prog) "newel/situation.Check$1" x_situation_CheckD1 := b00 102 [1, 3] [] Tryd.func102 (by kernel_rfl) (by kernel_rfl)
theorem l6m : Has (b0n Tryd.prog) "(newel/situation.Plant).set" x__situation_Plant__set := b00 95 [4, 29, 13, 8, 3, 27, 26] [] Tryd.func95 (by kernel_rfl) (by kernel_rfl)
theorem l7e : Has (b0n Tryd.prog) "slices.IndexFunc[newel/api.Term,newel/api.Literal]" x_slices_IndexFunc_api_Term_api_Literal_ := b00 99 [] [] Tryd.func99 (by kernel_rfl) (by kernel_rfl)
theorem r4k : Has (b0n Tryd.prog) "newel/situation.asks" x_situation_asks := b00 97 [3, 66, 58, 52, 44, 35, 31, 23, 17, 9, 5, 2, 60, 46, 33, 25, 11] [] Tryd.func97 (by kernel_rfl) (by kernel_rfl)
theorem l7f : Has (b0n Tryd.prog) "slices.Reverse[[]int,int]" x_slices_Reverse___int_int_ := b00 100 [] [] Tryd.func100 (by kernel_rfl) (by kernel_rfl)
theorem l68 : Has (b0n Tryd.prog) "slices.ContainsFunc[newel/api.Cond,newel/api.Term]" x_slices_ContainsFunc_api_Cond_api_Term_ := b00 87 [] [] Tryd.func87 (by kernel_rfl) (by kernel_rfl)
theorem l6i : Has (b0n Tryd.prog) "(newel/situation.Plant).Holds$1" x__situation_Plant__HoldsD1 := b00 88 [] [] Tryd.func88 (by kernel_rfl) (by kernel_rfl)
theorem s2a : Has (b0n Tryd.prog) "newel/situation.names" x_situation_names := b00 103 [1, 27, 14, 10, 8] [] Tryd.func103 (by kernel_rfl) (by kernel_rfl)
theorem s5p : Has (b0n Tryd.prog) "newel/situation.Plain" x_situation_Plain := b00 104 [] [] Tryd.func104 (by kernel_rfl) (by kernel_rfl)
theorem l62 : Has (b0n Tryd.prog) "newel/situation.Reserved" x_situation_Reserved := b00 105 [] [] Tryd.func105 (by kernel_rfl) (by kernel_rfl)
theorem l7d : Has (b0n Tryd.prog) "slices.IndexFunc[newel/api.Cond,newel/api.Term]" x_slices_IndexFunc_api_Cond_api_Term_ := b00 98 [] [] Tryd.func98 (by kernel_rfl) (by kernel_rfl)
theorem l6j : Has (b0n Tryd.prog) "(newel/situation.Plant).Holds$1$1" x__situation_Plant__HoldsD1D1 := b00 90 [4] [] Tryd.func90 (by kernel_rfl) (by kernel_rfl)
theorem l67 : Has (b0n Tryd.prog) "slices.Concat[[]string,string]" x_slices_Concat___string_string_ := b00 106 [] [] Tryd.func106 (by kernel_rfl) (by kernel_rfl)
theorem l6l : Has (b0n Tryd.prog) "(newel/situation.Plant).literal" x__situation_Plant__literal := b00 91 [6, 42, 32, 25, 24, 5, 53, 47, 34, 27, 22, 15, 10, 4, 40, 39] [] Tryd.func91 (by kernel_rfl) (by kernel_rfl)
theorem l7b : Has (b0n Tryd.prog) "slices.Grow[[]string,string]" x_slices_Grow___string_string_ := b00 107 [] [] Tryd.func107 (by kernel_rfl) (by kernel_rfl)
theorem l5x : ∀ p ∈ tbl, Has (b0n Tryd.prog) p.1 p.2 := by
 unfold tbl
 simp only [List.forall_mem_cons, List.not_mem_nil, false_implies, implies_true, and_true]
 exact ⟨l6w, l6u, l6n, l6p, l6v, l6r, l6s, l6c, l6t, l6o, l6e, l7c, l6q, l6x, l6a, l6d, l6z, l6f, l6g, l6k, l7a, l69, l6y, l6b, l6h, l66, r4l, l60, l6m, l7e, r4k, l7f, l68, l6i, s2a, s5p, l62, l7d, l6j, l67, l6l, l7b⟩
theorem l7k : b0n Tryd.prog "newel/newellaw04.works" [] (B true) [] := by
 have h := l5b
 split at h
 ·rename_i ob e; exact l44 l5x e
 ·cases h
end Go.Nw.KM
