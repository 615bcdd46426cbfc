/- Plain laws on the models. -/
import Derived.Test.YtfahaljhgfjooaaDoorNwCtlSrc
import Derived.Test.YtfahaljhgfjooaaDoorNwCall
import Derived.Test.YtfahaljhgfjooaaDoorRows
import Derived.LaidMore
import Derived.OpenShut
import Derived.MakeChecks
import Derived.Deep.Strs
import Derived.Test.YtfahaljhgfjooaaDoorNwRun2
import Derived.Test.YtfahaljhgfjooaaDoorNwHas
import Derived.Test.YtfahaljhgfjooaaDoorProg
set_option linter.all false
namespace Go.Nw.KM
open Go.Proofs Go.Nw.Ctl Go.RowKit Go.Deep
instance cfg : Cfg := ⟨fun g => if g = 0 then some b5h else none, fun f => (["(newel/situation.Plant).set", "slices.Reverse[[]int,int]"] : List String).contains f⟩
theorem g2q {w : World} {a : Addr} {v : Value} (h : w.cell? a = some v) : a.block < w.heap.size := by
 unfold World.cell? at h
 split at h
 ·rename_i hb; exact (Array.getElem?_eq_some_iff.1 hb).1
 ·cases h
theorem d3a : b5b.length = 8 := rfl
theorem j0j {W : World} (h : laidMetH Tryd.prog [("newel/newelref04.words", YtfahaljhgfjooaaDoor.Rows.laid_newel_newelref04_words)] W) : b4j Tryd.prog W (fun b => b < W.heap.size) := by
 rw [MakeChecks.laidMetH_plain _ _ _ (by kernel_rfl)] at h
 obtain ⟨ps, ⟨g0, t0, cs0, f0, p0, q0, hg0, ht0, hv0, hd0, _, _⟩, _, _⟩ := h
 obtain rfl := Option.some.inj ((show Tryd.prog.globalNamed "newel/newelref04.words" = some 0 by kernel_rfl).symm.trans hg0)
 obtain rfl := Option.some.inj ((show (Tryd.prog.globals[0]?).map (·.type) = some 22 by kernel_rfl).symm.trans ht0)
 have size : ∀ {n : String} {g : Nat} {cs : Array Value}, Tryd.prog.globalNamed n = some g -> W.var? Tryd.prog n = some cs -> g < W.heap.size := by
  intro n g cs hg hv
  simp only [World.var?, hg, bS9] at hv
  split at hv
  ·rename_i e; exact (Array.getElem?_eq_some_iff.1 e).1
  ·cases hv
 have hs := size hg0 hv0
 intro g cs hg
 by_cases z : g = 0
 case neg =>
  have : Cfg.tab g = none := by show (if g = 0 then some b5h else none) = none; rw [if_neg z]
  rw [this] at hg; cases hg
 subst z
 obtain rfl : b5h = cs := Option.some.inj hg
 refine ⟨hs, hs, fun j c hj => ?_⟩
 have hw : (YtfahaljhgfjooaaDoor.Rows.laid_newel_newelref04_words (H := Unit)) = .slice (b5b.map fun s => .lit (.string s)) [] := rfl
 rcases open_strs (e := 9) (by kernel_rfl) (by kernel_rfl) (by kernel_rfl) hd0 with ⟨_, h2⟩ | ⟨a, len, cap, m, Sx, hc, _, hlc, hcm, hm, hx, hcell⟩
 ·rw [hw] at h2; cases h2
 simp only [if_true] at hm
 subst hm
 rw [hw] at hx
 simp only [Prod.mk.injEq, DataW.slice.injEq] at hx
 have hlen : len = 8 := by have := congrArg List.length hx.1.1; simpa [d3a] using this.symm
 have hcap : m = len := by have := congrArg List.length hx.1.2; simp at this; omega
 subst hlen; subst hcap
 have hsx : ∀ i, i < 8 -> ∃ x, b5b[i]? = some x /\ Sx i = ⟨x.toArray⟩ := fun i hi => by
  have := congrArg (fun l : List (DataW Unit) => l[i]?) hx.1.1
  simp only [List.getElem?_map, List.getElem?_range hi, Option.map_some] at this
  obtain ⟨x, h1, h2⟩ := mE9.1 this
  refine ⟨x, h1, ?_⟩
  simp only [DataW.lit.injEq, Lit.string.injEq] at h2
  rw [h2]
 obtain ⟨b, o, spot⟩ := a
 have hspot : spot = none := by
  have h1 := (hcell 0 (by decide)).1
  simpa [Addr.add] using World.cell?_spot h1
 subst hspot
 have hadd : ∀ k, (⟨b, o, none⟩ : Addr).add k = ⟨b, o + k, none⟩ := fun k => by
  unfold Addr.add; by_cases hk : k = 0 <;> simp [hk]
 have hb0 : b < W.heap.size := by
  have h1 := (hcell 0 (by decide)).1
  have := g2q h1
  rwa [hadd] at this
 cases j with
 | succ j => simp [b5h] at hj
 | zero =>
  obtain rfl : GC.sl 1 (b5b.map fun s => [.string ⟨s.toArray⟩]) = c := by simpa [b5h] using hj
  refine ⟨.slice (some ⟨b, o, none⟩) 8 8, ?_, rfl, ?_⟩
  ·rw [World.var?_cell hg0 hv0 0, <- Array.getElem?_toList, hc]; rfl
  ·have hl : ((b5b.map fun s => [Value.string ⟨s.toArray⟩]).map (List.map AV.v)).length = 8 := rfl
   have hat : ∀ i j c, at2 ((b5b.map fun s => [Value.string ⟨s.toArray⟩]).map (List.map AV.v)) i j = some c -> i < 8 /\ j = 0 /\ c = .v (.string (Sx i)) := fun i j c hh => by
    unfold at2 at hh
    obtain ⟨row, h1, h2⟩ := bE9.1 hh
    simp only [List.map_map, List.getElem?_map, mE9] at h1
    obtain ⟨x, h3, h4⟩ := h1
    have hi : i < 8 := by have := (gS9.1 h3).1; simpa [d3a] using this
    obtain ⟨x', h5, h6⟩ := hsx i hi
    rw [h3] at h5; cases h5
    subst h4
    cases j with
    | zero => simp at h2; subst h2; exact ⟨hi, rfl, by rw [h6]⟩
    | succ j => simp at h2
   have sim : SimV Tryd.prog W (fun b => b < W.heap.size) Heap.empty (fun _ => (0, 0)) (.fs 1 ((b5b.map fun s => [Value.string ⟨s.toArray⟩]).map (List.map AV.v))) (.slice (some ⟨b, o, none⟩) ((b5b.map fun s => [Value.string ⟨s.toArray⟩]).map (List.map AV.v)).length 8) := by
    refine .fs 1 _ b o 8 (by rw [hl]; exact Nat.le_refl _) hb0 (fun e he => ?_) (fun i _ => .string (Sx i)) (fun i j c hh => ?_) (fun i j c hh => rfl) (fun i j c hh => ?_)
    ·obtain ⟨r, h1, rfl⟩ := List.mem_map.1 he
     obtain ⟨s, _, rfl⟩ := List.mem_map.1 h1
     rfl
    ·obtain ⟨h1, rfl, _⟩ := hat i j c hh
     have := (hcell i h1).1
     rw [hadd] at this
     rw [Nat.mul_one, Nat.add_zero]; exact this
    ·obtain ⟨_, _, rfl⟩ := hat i j c hh
     exact .v _
   rw [hl] at sim
   exact sim
theorem g3l (os : Os) (args : Array Value) : laidMetH Tryd.prog [("newel/newelref04.words", YtfahaljhgfjooaaDoor.Rows.laid_newel_newelref04_words)] ((World.doorLaid Tryd.prog 400 os).forCall (fun _ _ => 0) ⟨#[], args, []⟩).memory :=
 laidMetH_of_parts3 (fuel := 8) (laidMet_of_run' 8 (by kernel_rfl) (by kernel_rfl)) (by kernel_rfl) (by kernel_rfl)
end Go.Nw.KM
namespace Go.Nw.KM
open Go.Proofs Go.Nw.Ctl
set_option maxRecDepth 100000
def tbl : List (String × XFunc) := [("newel/newellaw04.works", x_l04_works), ("newel/newellaw04.Example", x_l04_Example), ("newel/control.Breach", x_control_Breach), ("newel/control.Classes", x_control_Classes), ("newel/newellaw04.sameInts", x_l04_sameInts), ("newel/control.check", x_control_check), ("newel/control.of", x_control_of), ("(newel/control.plant).breach", x__control_plant__breach), ("newel/control.same", x_control_same), ("newel/control.Check", x_control_Check), ("(newel/control.plant).explore", x__control_plant__explore), ("slices.IndexFunc[[]int,int]", x_slices_IndexFunc___int_int_), ("newel/control.Classes$1", x_control_ClassesD1), ("newel/situation.Asked", x_situation_Asked), ("(*newel/control.walk).first", x___control_walk__first), ("(newel/control.plant).breach$1", x__control_plant__breachD1), ("newel/situation.Check", x_situation_Check), ("(newel/situation.Plant).All", x__situation_Plant__All), ("(newel/situation.Plant).Allowed", x__situation_Plant__Allowed), ("(newel/situation.Plant).Step", x__situation_Plant__Step), ("slices.Equal[[]int,int]", x_slices_Equal___int_int_), ("slices.ContainsFunc[newel/api.Term,newel/api.Literal]", x_slices_ContainsFunc_api_Term_api_Literal_), ("newel/situation.Asked$1", x_situation_AskedD1), ("(*newel/control.walk).run", x___control_walk__run), ("(newel/situation.Plant).Holds", x__situation_Plant__Holds), ("newel/situation.within", x_situation_within), ("newel/situation.named", x_situation_named), ("newel/situation.Check$1", x_situation_CheckD1), ("(newel/situation.Plant).set", x__situation_Plant__set), ("slices.IndexFunc[newel/api.Term,newel/api.Literal]", x_slices_IndexFunc_api_Term_api_Literal_), ("newel/situation.asks", x_situation_asks), ("slices.Reverse[[]int,int]", x_slices_Reverse___int_int_), ("slices.ContainsFunc[newel/api.Cond,newel/api.Term]", x_slices_ContainsFunc_api_Cond_api_Term_), ("(newel/situation.Plant).Holds$1", x__situation_Plant__HoldsD1), ("newel/situation.names", x_situation_names), ("newel/situation.Plain", x_situation_Plain), ("newel/situation.Reserved", x_situation_Reserved), ("slices.IndexFunc[newel/api.Cond,newel/api.Term]", x_slices_IndexFunc_api_Cond_api_Term_), ("(newel/situation.Plant).Holds$1$1", x__situation_Plant__HoldsD1D1), ("slices.Concat[[]string,string]", x_slices_Concat___string_string_), ("(newel/situation.Plant).literal", x__situation_Plant__literal), ("slices.Grow[[]string,string]", x_slices_Grow___string_string_)]
theorem j7t : (match c1t tbl 40 "newel/newellaw04.works" [] [] with | some ([.v (.bool true)], _) => true | _ => false) = true := by kernel_rfl
theorem j9g : Has (b0n Tryd.prog) "newel/newellaw04.works" x_l04_works := b0x 16 [] [] Tryd.func16 (by kernel_rfl) (by kernel_rfl)
theorem j9e : Has (b0n Tryd.prog) "newel/newellaw04.Example" x_l04_Example := b0x 49 [] [] Tryd.func49 (by kernel_rfl) (by kernel_rfl)
theorem j87 : Has (b0n Tryd.prog) "newel/control.Breach" x_control_Breach := b0x 25 [3] [] Tryd.func25 (by kernel_rfl) (by kernel_rfl)
theorem j89 : Has (b0n Tryd.prog) "newel/control.Classes" x_control_Classes := b0x 35 [1, 47] [] Tryd.func35 (by kernel_rfl) (by kernel_rfl)
theorem j9f : Has (b0n Tryd.prog) "newel/newellaw04.sameInts" x_l04_sameInts := b0x 24 [] [] Tryd.func24 (by kernel_rfl) (by kernel_rfl)
theorem j9b : Has (b0n Tryd.prog) "newel/control.check" x_control_check := b0x 50 [2] [] Tryd.func50 (by kernel_rfl) (by kernel_rfl)
theorem j9c : Has (b0n Tryd.prog) "newel/control.of" x_control_of := b0x 51 [1] [] Tryd.func51 (by kernel_rfl) (by kernel_rfl)
theorem j8w : Has (b0n Tryd.prog) "(newel/control.plant).breach" x__control_plant__breach := b0x 55 [6, 4] [(4, 10)] Tryd.func55 (by kernel_rfl) (by kernel_rfl)
theorem j9d : Has (b0n Tryd.prog) "newel/control.same" x_control_same := b0x 53 [] [] Tryd.func53 (by kernel_rfl) (by kernel_rfl)
theorem j88 : Has (b0n Tryd.prog) "newel/control.Check" x_control_Check := b0x 68 [1] [] Tryd.func68 (by kernel_rfl) (by kernel_rfl)
theorem j8y : Has (b0n Tryd.prog) "(newel/control.plant).explore" x__control_plant__explore := b0x 52 [3, 60, 53, 41] [(42, 11)] Tryd.func52 (by kernel_rfl) (by kernel_rfl)
theorem j9w : Has (b0n Tryd.prog) "slices.IndexFunc[[]int,int]" x_slices_IndexFunc___int_int_ := b0x 76 [] [] Tryd.func76 (by kernel_rfl) (by kernel_rfl)
theorem j9a : Has (b0n Tryd.prog) "newel/control.Classes$1" x_control_ClassesD1 := b0x 77 [] [] Tryd.func77 (by kernel_rfl) (by kernel_rfl)
theorem j9h : Has (b0n Tryd.prog) "newel/situation.Asked" x_situation_Asked := b0x 85 [2] [] Tryd.func85 (by kernel_rfl) (by kernel_rfl)
theorem j8u : Has (b0n Tryd.prog) "(*newel/control.walk).first" x___control_walk__first := b0x 61 [] [] Tryd.func61 (by kernel_rfl) (by kernel_rfl)
theorem j8x : Has (b0n Tryd.prog) "(newel/control.plant).breach$1" x__control_plant__breachD1 := b0x 86 [] [] Tryd.func86 (by kernel_rfl) (by kernel_rfl)
theorem j9j : Has (b0n Tryd.prog) "newel/situation.Check" x_situation_Check := b0x 93 [1, 138, 94, 85, 76, 68, 59, 47, 37, 30, 24, 18, 13] [] Tryd.func93 (by kernel_rfl) (by kernel_rfl)
theorem j8z : Has (b0n Tryd.prog) "(newel/situation.Plant).All" x__situation_Plant__All := b0x 80 [1, 4, 3] [] Tryd.func80 (by kernel_rfl) (by kernel_rfl)
theorem j80 : Has (b0n Tryd.prog) "(newel/situation.Plant).Allowed" x__situation_Plant__Allowed := b0x 81 [6, 4] [] Tryd.func81 (by kernel_rfl) (by kernel_rfl)
theorem j84 : Has (b0n Tryd.prog) "(newel/situation.Plant).Step" x__situation_Plant__Step := b0x 71 [3, 12, 11] [] Tryd.func71 (by kernel_rfl) (by kernel_rfl)
theorem j9u : Has (b0n Tryd.prog) "slices.Equal[[]int,int]" x_slices_Equal___int_int_ := b0x 78 [] [] Tryd.func78 (by kernel_rfl) (by kernel_rfl)
theorem j9t : Has (b0n Tryd.prog) "slices.ContainsFunc[newel/api.Term,newel/api.Literal]" x_slices_ContainsFunc_api_Term_api_Literal_ := b0x 89 [] [] Tryd.func89 (by kernel_rfl) (by kernel_rfl)
theorem j9i : Has (b0n Tryd.prog) "newel/situation.Asked$1" x_situation_AskedD1 := b0x 96 [2] [] Tryd.func96 (by kernel_rfl) (by kernel_rfl)
theorem j8v : Has (b0n Tryd.prog) "(*newel/control.walk).run" x___control_walk__run := b0x 92 [] [] Tryd.func92 (by kernel_rfl) (by kernel_rfl)
theorem j81 : Has (b0n Tryd.prog) "(newel/situation.Plant).Holds" x__situation_Plant__Holds := b0x 58 [7, 6, 4] [] Tryd.func58 (by kernel_rfl) (by kernel_rfl)
theorem j9q : Has (b0n Tryd.prog) "newel/situation.within" x_situation_within := b0x 94 [] [] Tryd.func94 (by kernel_rfl) (by kernel_rfl)
theorem j9o : Has (b0n Tryd.prog) "newel/situation.named" x_situation_named := b0x 101 [1] [] Tryd.func101 (by kernel_rfl) (by kernel_rfl)
theorem j9k : Has (b0n Tryd.prog) "newel/situation.Check$1" x_situation_CheckD1 := b0x 102 [1, 3] [] Tryd.func102 (by kernel_rfl) (by kernel_rfl)
theorem j86 : Has (b0n Tryd.prog) "(newel/situation.Plant).set" x__situation_Plant__set := b0x 95 [4, 29, 13, 8, 3, 27, 26] [] Tryd.func95 (by kernel_rfl) (by kernel_rfl)
theorem j9y : Has (b0n Tryd.prog) "slices.IndexFunc[newel/api.Term,newel/api.Literal]" x_slices_IndexFunc_api_Term_api_Literal_ := b0x 99 [] [] Tryd.func99 (by kernel_rfl) (by kernel_rfl)
theorem j9n : Has (b0n Tryd.prog) "newel/situation.asks" x_situation_asks := b0x 97 [3, 66, 58, 52, 44, 35, 31, 23, 17, 9, 5, 2, 60, 46, 33, 25, 11] [] Tryd.func97 (by kernel_rfl) (by kernel_rfl)
theorem j9z : Has (b0n Tryd.prog) "slices.Reverse[[]int,int]" x_slices_Reverse___int_int_ := b0x 100 [] [] Tryd.func100 (by kernel_rfl) (by kernel_rfl)
theorem j9s : Has (b0n Tryd.prog) "slices.ContainsFunc[newel/api.Cond,newel/api.Term]" x_slices_ContainsFunc_api_Cond_api_Term_ := b0x 87 [] [] Tryd.func87 (by kernel_rfl) (by kernel_rfl)
theorem j82 : Has (b0n Tryd.prog) "(newel/situation.Plant).Holds$1" x__situation_Plant__HoldsD1 := b0x 88 [] [] Tryd.func88 (by kernel_rfl) (by kernel_rfl)
theorem j9p : Has (b0n Tryd.prog) "newel/situation.names" x_situation_names := b0x 103 [1, 27, 14, 10, 8] [] Tryd.func103 (by kernel_rfl) (by kernel_rfl)
theorem j9l : Has (b0n Tryd.prog) "newel/situation.Plain" x_situation_Plain := b0x 104 [] [] Tryd.func104 (by kernel_rfl) (by kernel_rfl)
theorem j9m : Has (b0n Tryd.prog) "newel/situation.Reserved" x_situation_Reserved := b0x 105 [] [] Tryd.func105 (by kernel_rfl) (by kernel_rfl)
theorem j9x : Has (b0n Tryd.prog) "slices.IndexFunc[newel/api.Cond,newel/api.Term]" x_slices_IndexFunc_api_Cond_api_Term_ := b0x 98 [] [] Tryd.func98 (by kernel_rfl) (by kernel_rfl)
theorem j83 : Has (b0n Tryd.prog) "(newel/situation.Plant).Holds$1$1" x__situation_Plant__HoldsD1D1 := b0x 90 [4] [] Tryd.func90 (by kernel_rfl) (by kernel_rfl)
theorem j9r : Has (b0n Tryd.prog) "slices.Concat[[]string,string]" x_slices_Concat___string_string_ := b0x 106 [] [] Tryd.func106 (by kernel_rfl) (by kernel_rfl)
theorem j85 : Has (b0n Tryd.prog) "(newel/situation.Plant).literal" x__situation_Plant__literal := b0x 91 [6, 42, 32, 25, 24, 5, 53, 47, 34, 27, 22, 15, 10, 4, 40, 39] [] Tryd.func91 (by kernel_rfl) (by kernel_rfl)
theorem j9v : Has (b0n Tryd.prog) "slices.Grow[[]string,string]" x_slices_Grow___string_string_ := b0x 107 [] [] Tryd.func107 (by kernel_rfl) (by kernel_rfl)
theorem j8f : ∀ p ∈ tbl, Has (b0n Tryd.prog) p.1 p.2 := by
 unfold tbl
 simp only [List.forall_mem_cons, List.not_mem_nil, false_implies, implies_true, and_true]
 exact ⟨j9g, j9e, j87, j89, j9f, j9b, j9c, j8w, j9d, j88, j8y, j9w, j9a, j9h, j8u, j8x, j9j, j8z, j80, j84, j9u, j9t, j9i, j8v, j81, j9q, j9o, j9k, j86, j9y, j9n, j9z, j9s, j82, j9p, j9l, j9m, j9x, j83, j9r, j85, j9v⟩
theorem j93 : b0n Tryd.prog "newel/newellaw04.works" [] (B true) [] := by
 have h := j7t
 split at h
 ·rename_i ob e; exact j7m j8f e
 ·cases h
end Go.Nw.KM
