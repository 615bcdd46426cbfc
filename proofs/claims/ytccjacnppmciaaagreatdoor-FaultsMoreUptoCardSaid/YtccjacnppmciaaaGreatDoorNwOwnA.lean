/- Functions whose result is a struct with a slice of one's own as its last cell. -/
import Derived.Test.YtccjacnppmciaaaGreatDoorNwOwn
set_option linter.all false
namespace Go.Nw
structure FnWA {α : Type} (O : Orac) (f : String) (as cs : List AV) (sz : Nat) (e : α -> List AV) (l : List α) : Prop where
 o : O f as (.agg (cs ++ [.rs 0 0 (List.length l)])) [(sz, List.map e l)]
 a : ∀ a ∈ as, Frz a
 c : ∀ c ∈ cs, Frz c
 p : p8x e sz
theorem z2z {f : Nat -> Option Nat} {cs : List AV} {u v : AV} (hc : ∀ c ∈ cs, Frz c) (h : Ren f u v) : Ren f (.agg (cs ++ [u])) (.agg (cs ++ [v])) := by
 refine .agg _ _ (by simp) fun i c d h1 h2 => ?_
 by_cases hi : i < cs.length
 ·rw [List.getElem?_append_left hi] at h1 h2
  rw [h1] at h2; cases h2
  exact .frz _ (hc _ (mG9 h1))
 ·rw [List.getElem?_append_right (by omega)] at h1 h2
  have e0 : i - cs.length = 0 := by
   have := (gS9.1 h1).1
   simp at this; omega
  rw [e0] at h1 h2
  simp at h1 h2
  subst h1 h2; exact h
theorem z3g {α : Type} {O : Orac} {f : String} {fn : XFunc} (hf : Has O f fn) {as cs : List AV} {sz : Nat} {e : α -> List AV} {l : List α} (hl : as.length = fn.np) (hz : ∀ a ∈ as, Frz a) (hc : ∀ c ∈ cs, Frz c) (hp : p8x e sz)
  (hw : cw O fn.body (c4n fn.res (.agg (cs ++ [.rs 0 0 (List.length l)])) [(sz, List.map e l)]) (st0 as) Heap.empty) : FnWA O f as cs sz e l := ⟨c7b hf hl hz hw, hz, hc, hp⟩
theorem z3m {α : Type} {O : Orac} {f : String} {as cs : List AV} {sz : Nat} {e : α -> List AV} {l : List α} {h : Heap} {k : AV -> Heap -> Prop} (hf : FnWA O f as cs sz e l)
  (hk : k (.agg (cs ++ [.rs h.nx 0 (List.length l)])) (h.new (sz, List.map e l))) : @y39 O f as h ⟨k⟩ := by
 have hcell : ∀ (es : List (List AV)), es = List.map e l -> ∀ i j c, at2 es i j = some c -> Frz c := by
  rintro es rfl i j c hc
  obtain ⟨r, h1, h2⟩ := b9m hc
  obtain ⟨a, _, rfl⟩ := List.mem_map.1 (mG9 h1)
  exact (hf.p a).2 c (mG9 h2)
 refine ⟨_, _, ⟨as, _, [(sz, List.map e l)], [(sz, List.map e l)], FzL.frz hf.a, hf.o, .inl hf.a, z2z hf.c (.rs 0 (h.nx + 0) 0 _ (by simp)), rfl, fun k sz' es hh => ?_, rfl⟩, ?_⟩
 ·cases k with
  | zero =>
   simp only [List.getElem?_cons_zero, iE9, Prod.mk.injEq] at hh
   obtain ⟨rfl, rfl⟩ := hh
   refine ⟨_, rfl, rfl, fun r hr => ?_, fun i j c hc => ⟨c, hc, .frz _ (hcell _ rfl i j c hc)⟩⟩
   obtain ⟨a, _, rfl⟩ := List.mem_map.1 hr
   exact (hf.p a).1
  | succ k => simp at hh
 ·exact hk
theorem z3e {α : Type} {n id m sz : Nat} {cs : List AV} {v : AV} {e : α -> List AV} {l : List α} {t : Slots} {h : Heap} (ht : t n = .rp id 0 0) (ho : h.ob id = some (m, [cs ++ [v]])) (hl : (cs ++ [v]).length = m) (hw : b2a h v sz (List.map e l)) (hne : l ≠ []) (hc : ∀ c ∈ cs, Frz c) (hp : p8x e sz) :
  b4b [.cell n true m] (.agg (cs ++ [.rs 0 0 (List.length l)])) [(sz, List.map e l)] ⟨t, h⟩ := by
 rcases hw with ⟨_, h1⟩ | ⟨id', h1, h2, _⟩
 ·exact absurd (List.map_eq_nil_iff.1 h1) hne
 rw [List.length_map] at h1
 subst h1
 refine .inr ⟨[.agg (cs ++ [.rs id' 0 (List.length l)])], [id'], ?_, rfl, by simp, ?_, fun k sz' ds hh => ?_⟩
 ·subst hl
  simp only [List.mapM_cons, List.mapM_nil]
  simp [b37, eff, St.ev, ht, ho]
  exact List.take_of_length_le (by simp)
 ·exact z2z hc (.rs id' 0 0 _ (by simp [List.range_succ, List.find?]))
 ·cases k with
  | zero =>
   simp only [List.getElem?_cons_zero, iE9, Prod.mk.injEq] at hh
   obtain ⟨rfl, rfl⟩ := hh
   refine ⟨id', List.map e l, rfl, h2, rfl, fun r hr => ?_, fun i j c hc => ⟨c, hc, ?_⟩⟩
   ·obtain ⟨a, _, rfl⟩ := List.mem_map.1 hr
    exact (hp a).1
   ·obtain ⟨r, h1, h2⟩ := b9m hc
    obtain ⟨a, _, rfl⟩ := List.mem_map.1 (mG9 h1)
    exact .frz _ ((hp a).2 c (mG9 h2))
  | succ k => simp at hh
end Go.Nw
