/- Functions whose result is a cell and two slices of one's own. -/
import Derived.Test.YtinmifhfkkjccaaNwOwnA
set_option linter.all false
namespace Go.Nw
structure FnW2 {α β : Type} (O : Orac) (f : String) (as : List AV) (x : AV) (sz : Nat) (e : α -> List AV) (l : List α) (sz' : Nat) (e' : β -> List AV) (l' : List β) : Prop where
 o : O f as (.agg [x, .rs 0 0 (List.length l), .rs 1 0 (List.length l')]) [(sz, List.map e l), (sz', List.map e' l')]
 a : ∀ a ∈ as, Frz a
 x : Frz x
 p : p8x e sz
 q : p8x e' sz'
theorem J10 {f : Nat -> Option Nat} {x u v u' v' : AV} (hx : Frz x) (h : Ren f u v) (h' : Ren f u' v') : Ren f (.agg [x, u, u']) (.agg [x, v, v']) := by
 refine .agg _ _ rfl fun i c d h1 h2 => ?_
 match i, h1, h2 with
 | 0, h1, h2 => cases h1; cases h2; exact .frz _ hx
 | 1, h1, h2 => cases h1; cases h2; exact h
 | 2, h1, h2 => cases h1; cases h2; exact h'
 | i + 3, h1, h2 => simp at h1
theorem H91 {α : Type} {e : α -> List AV} {sz : Nat} {l : List α} (hp : p8x e sz) {i j : Nat} {c : AV} (h : at2 (List.map e l) i j = some c) : Frz c := by
 obtain ⟨r, h1, h2⟩ := b9m h
 obtain ⟨a, _, rfl⟩ := List.mem_map.1 (mG9 h1)
 exact (hp a).2 c (mG9 h2)
theorem H92 {α : Type} {e : α -> List AV} {sz : Nat} {l : List α} (hp : p8x e sz) : ∀ r ∈ List.map e l, r.length = sz := fun r hr => by
 obtain ⟨a, _, rfl⟩ := List.mem_map.1 hr
 exact (hp a).1
section
variable {α β : Type} {O : Orac} {f : String} {as : List AV} {x : AV} {sz : Nat} {e : α -> List AV} {l : List α} {sz' : Nat} {e' : β -> List AV} {l' : List β}
theorem J3a {fn : XFunc} (hf : Has O f fn) (hl : as.length = fn.np) (hz : ∀ a ∈ as, Frz a) (hx : Frz x) (hp : p8x e sz) (hq : p8x e' sz')
  (hw : cw O fn.body (c4n fn.res (.agg [x, .rs 0 0 (List.length l), .rs 1 0 (List.length l')]) [(sz, List.map e l), (sz', List.map e' l')]) (st0 as) Heap.empty) : FnW2 O f as x sz e l sz' e' l' := ⟨c7b hf hl hz hw, hz, hx, hp, hq⟩
theorem J3y {h : Heap} {k : AV -> Heap -> Prop} (hf : FnW2 O f as x sz e l sz' e' l')
  (hk : k (.agg [x, .rs h.nx 0 (List.length l), .rs (nxs h.nx) 0 (List.length l')]) ((h.new (sz, List.map e l)).new (sz', List.map e' l'))) : @x61 O f as h ⟨k⟩ := by
 refine ⟨_, _, ⟨as, _, [(sz, List.map e l), (sz', List.map e' l')], [(sz, List.map e l), (sz', List.map e' l')], FzL.frz hf.a, hf.o, .inl hf.a, J10 hf.x (.rs 0 (h.nx + 0) 0 _ (by simp)) (.rs 1 (h.nx + 1) 0 _ (by simp)), rfl, fun k sz2 es hh => ?_, rfl⟩, hk⟩
 match k, hh with
 | 0, hh => cases hh; exact ⟨_, rfl, rfl, H92 hf.p, fun i j c hc => ⟨c, hc, .frz _ (H91 hf.p hc)⟩⟩
 | 1, hh => cases hh; exact ⟨_, rfl, rfl, H92 hf.q, fun i j c hc => ⟨c, hc, .frz _ (H91 hf.q hc)⟩⟩
 | k + 2, hh => simp at hh
theorem J21 {n id i1 i2 : Nat} {t : Slots} {h : Heap} (ht : t n = .rp id 0 0) (ho : h.ob id = some (3, [[x, .rs i1 0 (List.length l), .rs i2 0 (List.length l')]])) (h1 : h.ob i1 = some (sz, List.map e l)) (h2 : h.ob i2 = some (sz', List.map e' l')) (hne : ¬ i1 = i2) (hx : Frz x) (hp : p8x e sz) (hq : p8x e' sz') :
  b4b [.cell n true 3] (.agg [x, .rs 0 0 (List.length l), .rs 1 0 (List.length l')]) [(sz, List.map e l), (sz', List.map e' l')] ⟨t, h⟩ := by
 refine .inr ⟨[.agg [x, .rs i1 0 (List.length l), .rs i2 0 (List.length l')]], [i1, i2], ?_, rfl, by simp [hne], ?_, fun k sz2 ds hh => ?_⟩
 ·simp [c46, eff, St.ev, ht, ho]
 ·exact J10 hx (.rs i1 0 0 _ (by simp [List.range_succ, List.find?])) (.rs i2 1 0 _ (by simp [List.range_succ, List.find?, hne]))
 ·match k, hh with
  | 0, hh => cases hh; exact ⟨i1, _, rfl, h1, rfl, H92 hp, fun i j c hc => ⟨c, hc, .frz _ (H91 hp hc)⟩⟩
  | 1, hh => cases hh; exact ⟨i2, _, rfl, h2, rfl, H92 hq, fun i j c hc => ⟨c, hc, .frz _ (H91 hq hc)⟩⟩
  | k + 2, hh => simp at hh
end
end Go.Nw
