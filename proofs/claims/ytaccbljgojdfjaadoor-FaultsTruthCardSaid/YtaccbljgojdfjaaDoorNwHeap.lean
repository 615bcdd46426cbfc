/- Own objects: rules for what makes, reads, writes and hands them over. -/
import Derived.Test.YtaccbljgojdfjaaDoorNwModel
set_option linter.all false
set_option linter.unusedVariables false
set_option linter.unusedSimpArgs false
set_option linter.unusedSectionVars false
namespace Go.Nw
theorem c19 {h : Heap} {o : Ob} {i : Nat} (hl : i < h.nx) : (h.new o).ob i = h.ob i := by
  simp only [Heap.new]; rw [if_neg (by omega)]
theorem c18 {h : Heap} {o : Ob} {i : Nat} (hl : i = h.nx) : (h.new o).ob i = some o := by
  simp only [Heap.new]; rw [if_pos hl]
theorem c8k {h : Heap} {o : Option Ob} {i j : Nat} (hl : ¬ i = j) : (h.upd j o).ob i = h.ob i := by
  simp only [Heap.upd]; rw [if_neg hl]
theorem g4s {h : Heap} {o : Option Ob} {i j : Nat} (hl : i = j) : (h.upd j o).ob i = o := by
  simp only [Heap.upd]; rw [if_pos hl]
theorem c4r {p : Prop} : @b2o True ⟨p⟩ = p := by simp [b2o]
theorem b1b {α : Type} {f : α → List AV} {l : List α} {i : Int} {x : α} {sz : Nat} {k : Nat → List (List AV) → List AV → Prop} (hx : get l i = some x) :
    @b8q (some (sz, List.map f l)) i.toNat ⟨k⟩ = k sz (List.map f l) (f x) := by
  show b4j _ _ _ = _
  simp only [c71, List.getElem?_map, b23 hx, Option.map_some, Option.some.injEq]
  apply propext; constructor
  · rintro ⟨_, rfl, hk⟩; exact hk
  · exact fun hk => ⟨_, rfl, hk⟩
theorem g34 {l : List Int} {n : Nat} {v : Int} : (List.map eI l).set n [I v] = List.map eI (l.set n v) := by rw [List.map_set]; rfl
theorem g33 {l : List Bool} {n : Nat} {v : Bool} : (List.map eB l).set n [B v] = List.map eB (l.set n v) := by rw [List.map_set]; rfl
def mks {α : Type} (b : Nat) (n : Int) (z : α) : Option (List α) := if 0 ≤ n ∧ n * b ≤ 2 ^ 47 ∧ n < 2 ^ 63 then some (List.replicate n.toNat z) else none
theorem c16 {α : Type} {b : Nat} {n : Int} {z : α} {l : List α} (h : mks b n z = some l) : 0 ≤ n ∧ n * b ≤ 2 ^ 47 ∧ n < 2 ^ 63 ∧ l = List.replicate n.toNat z := by
  unfold mks at h; split at h
  · rename_i hc; cases h; exact ⟨hc.1, hc.2.1, hc.2.2, rfl⟩
  · cases h
theorem d71 {α : Type} {b : Nat} {n : Int} {z : α} (h0 : 0 ≤ n) (h1 : n * b ≤ 2 ^ 47) (h2 : n < 2 ^ 63) : mks b n z = some (List.replicate n.toNat z) := by
  unfold mks; rw [if_pos ⟨h0, h1, h2⟩]
def ap {α : Type} (b : Nat) (l m : List α) : Option (List α) := if (l.length + m.length) * b ≤ 2 ^ 40 then some (l ++ m) else none
theorem b7t {α : Type} {b : Nat} {l m r : List α} (h : ap b l m = some r) : (l.length + m.length) * b ≤ 2 ^ 40 ∧ r = l ++ m := by
  unfold ap at h; split at h
  · rename_i hc; cases h; exact ⟨hc, rfl⟩
  · cases h
theorem c9b {α : Type} {b : Nat} {l m : List α} (h : (l.length + m.length) * b ≤ 2 ^ 40) : ap b l m = some (l ++ m) := by
  unfold ap; rw [if_pos h]
def b8m (sz : Nat) (zs : List Value) (b : Nat) (l c : AV) (h : Heap) [k : K2] : Prop := ∃ r h', eff (.mksl sz zs b (.t 0) (.t 1)) (evT fun i => if i = 0 then l else c) h = some (r, h') ∧ k.k r h'
def b6v (sz b : Nat) (s x : AV) (h : Heap) [k : K2] : Prop := ∃ r h', eff (.app sz b (.t 0) (.t 1)) (evT fun i => if i = 0 then s else x) h = some (r, h') ∧ k.k r h'
def c1b (sz : Nat) (vs : List AV) (h : Heap) [k : K2] : Prop := (vs.all fun x => b02 x && (cellsOf x).length == sz) = true ∧ k.k (.rs h.nx 0 vs.length) (h.new (sz, vs.map cellsOf))
section
variable {O : Orac} {d : Option Nat} {g : Nat} {b0 : Bool} {r : List XO} {K : Slots → Heap → Prop} {t : Slots} {h : Heap} {k : AV → Heap → Prop}
theorem d5e {sz zs b l c} : b0a O (⟨d, none, .mksl sz zs b l c⟩ :: r) K t h = @iop O (.mksl sz zs b l c) t h ⟨fun v h' => b0a O r K (b0b t d v) h'⟩ := b1f rfl
theorem d57 {sz zs b l c} : b0a O (⟨d, some (g, b0), .mksl sz zs b l c⟩ :: r) K t h = @b1c (t g) b0 ⟨@iop O (.mksl sz zs b l c) (upd t g (B b0)) h ⟨fun v h' => b0a O r K (b0b (upd t g (B b0)) d v) h'⟩⟩ ⟨b0a O r K (b0b (upd t g (B (!b0))) d U) h⟩ ⟨b0a O r K (b0b t d U) h⟩ := b1g rfl
theorem d4u {sz b s x} : b0a O (⟨d, none, .app sz b s x⟩ :: r) K t h = @iop O (.app sz b s x) t h ⟨fun v h' => b0a O r K (b0b t d v) h'⟩ := b1f rfl
theorem d5p {sz b s x} : b0a O (⟨d, some (g, b0), .app sz b s x⟩ :: r) K t h = @b1c (t g) b0 ⟨@iop O (.app sz b s x) (upd t g (B b0)) h ⟨fun v h' => b0a O r K (b0b (upd t g (B b0)) d v) h'⟩⟩ ⟨b0a O r K (b0b (upd t g (B (!b0))) d U) h⟩ ⟨b0a O r K (b0b t d U) h⟩ := b1g rfl
theorem d4y {sz vs} : b0a O (⟨d, none, .bsl sz vs⟩ :: r) K t h = @iop O (.bsl sz vs) t h ⟨fun v h' => b0a O r K (b0b t d v) h'⟩ := b1f rfl
theorem d5t {sz vs} : b0a O (⟨d, some (g, b0), .bsl sz vs⟩ :: r) K t h = @b1c (t g) b0 ⟨@iop O (.bsl sz vs) (upd t g (B b0)) h ⟨fun v h' => b0a O r K (b0b (upd t g (B b0)) d v) h'⟩⟩ ⟨b0a O r K (b0b (upd t g (B (!b0))) d U) h⟩ ⟨b0a O r K (b0b t d U) h⟩ := b1g rfl
theorem d62 {sz zs b l c} : @iop O (.mksl sz zs b l c) t h ⟨k⟩ = @b8m sz zs b (evT t l) (evT t c) h ⟨k⟩ := by
  simp only [iop, op1, b8m, eff, evT, if_true, Nat.one_ne_zero, if_false]
theorem d6i {sz b s x} : @iop O (.app sz b s x) t h ⟨k⟩ = @b6v sz b (evT t s) (evT t x) h ⟨k⟩ := by
  simp only [iop, op1, b6v, eff, evT, if_true, Nat.one_ne_zero, if_false]
theorem d6m {sz vs} : @iop O (.bsl sz vs) t h ⟨k⟩ = @c1b sz (vs.map (evT t)) h ⟨k⟩ := by
  simp only [iop, op1, c1b, eff, List.length_map]
  apply propext; constructor
  · rintro ⟨r, h', he, hk⟩
    split at he
    · rename_i hc; cases he; exact ⟨hc, hk⟩
    · cases he
  · rintro ⟨hc, hk⟩
    exact ⟨_, _, by rw [if_pos hc], hk⟩
theorem c5o {sz vs} : @c1b sz vs h ⟨k⟩ = @b2o ((vs.all fun x => b02 x && (cellsOf x).length == sz) = true) ⟨k (.rs h.nx 0 vs.length) (h.new (sz, vs.map cellsOf))⟩ := rfl
theorem d6g {α : Type} {f : α → List AV} {z : α} {sz : Nat} {zs : List Value} {b : Nat} {n : Int} {l : List α} (hz : zs.map .v = f z) (hm : mks b n z = some l)
    (hk : k (.rs h.nx 0 (List.length l)) (h.new (sz, List.map f l))) : @b8m sz zs b (I n) (I n) h ⟨k⟩ := by
  obtain ⟨h0, h1, h2, rfl⟩ := c16 hm
  rw [List.length_replicate, List.map_replicate, ← hz] at hk
  refine ⟨_, _, ?_, hk⟩
  simp only [eff, evT, if_true, Nat.one_ne_zero, if_false]
  rw [if_pos ⟨trivial, h0, h1, h2⟩]
def b3q (h : Heap) (v : AV) (o : Ob) : Heap := (match v with | .rs id _ _ => h.upd id none | _ => h).new o
theorem b7u {a : Option Addr} {b c : Nat} {o : Ob} : b3q h (.v (.slice a b c)) o = h.new o := rfl
theorem b7v {id lo len : Nat} {o : Ob} : b3q h (.rs id lo len) o = (h.upd id none).new o := rfl
def b1s (h : Heap) (v : AV) (sz : Nat) (rows : List (List AV)) : Prop := (v = .v (.slice none 0 0) ∧ rows = []) ∨ ∃ id, v = .rs id 0 rows.length ∧ h.ob id = some (sz, rows) ∧ id < h.nx
def c20 (h : Heap) (v : AV) (sz : Nat) (rows : List (List AV)) : Prop := v = .fs sz rows ∨ ∃ id, v = .rs id 0 rows.length ∧ h.ob id = some (sz, rows)
def b0m (v : AV) (i : Nat) : Prop := match v with | .rs id _ _ => ¬ id = i | _ => True
theorem d4r {α : Type} {f : α → List AV} {sz b : Nat} {s x : AV} {l m r : List α} (hs : b1s h s sz (List.map f l)) (hx : c20 h x sz (List.map f m)) (hd : ∀ i, ¬ b0m s i → b0m x i) (hn : s = .v (.slice none 0 0) → ¬ m = [])
    (ha : ap b l m = some r) (hk : k (.rs h.nx 0 (List.length r)) (b3q h s (sz, List.map f r))) : @b6v sz b s x h ⟨k⟩ := by
  obtain ⟨hb, rfl⟩ := b7t ha
  rw [List.length_append, List.map_append] at hk
  refine ⟨_, _, ?_, hk⟩
  simp only [eff, evT, if_true, Nat.one_ne_zero, if_false]
  rcases hs with ⟨rfl, hl⟩ | ⟨id, rfl, ho, hlt⟩
  · have hl' : l = [] := by simpa using hl
    subst hl'
    have hm : ¬ m.length = 0 := fun e => hn rfl (List.length_eq_zero_iff.1 e)
    rcases hx with rfl | ⟨id2, rfl, ho2⟩
    · simp only [List.length_map, hm, if_false, List.map_nil, List.nil_append, List.length_nil, Nat.zero_add, b7u]
      rw [if_pos ⟨trivial, by simpa using hb⟩]
    · simp only [ho2, Option.bind_some, List.length_map, hm, if_false, List.map_nil, List.nil_append, List.length_nil, Nat.zero_add, b7u]
      rw [if_pos ⟨trivial, by simp, by simpa using hb⟩]
      simp [List.take_of_length_le]
  · rcases hx with rfl | ⟨id2, rfl, ho2⟩
    · simp only [ho, Option.bind_some, List.length_map, b7v]
      rw [if_pos ⟨trivial, trivial, by simp, hb⟩]
      simp [List.take_of_length_le]
    · have hne : id ≠ id2 := fun e => hd id (by simp [b0m]) e.symm
      simp only [ho, ho2, Option.bind_some, List.length_map, b7v]
      rw [if_pos ⟨trivial, trivial, hne, by simp, by simp, hb⟩]
      simp [List.take_of_length_le]
theorem g2u {sz : Nat} : b1s h (.v (.slice none 0 0)) sz [] := .inl ⟨rfl, rfl⟩
theorem g2v {α : Type} {f : α → List AV} {sz : Nat} : b1s h (.v (.slice none 0 0)) sz (List.map f []) := .inl ⟨rfl, rfl⟩
theorem g2w {id n sz : Nat} {rows : List (List AV)} (ho : h.ob id = some (sz, rows)) (hl : n = rows.length) (hn : id < h.nx) : b1s h (.rs id 0 n) sz rows := .inr ⟨id, by rw [hl], ho, hn⟩
theorem g2x {id n sz : Nat} {rows : List (List AV)} (ho : h.ob id = some (sz, rows)) (hl : n = rows.length) : c20 h (.rs id 0 n) sz rows := .inr ⟨id, by rw [hl], ho⟩
theorem d79 {s : AV} {id lo n : Nat} (hs : b0m s id) : ∀ i, ¬ b0m s i → b0m (.rs id lo n) i := fun i hi e => hi (e ▸ hs)
theorem g1f {a : Value} {i : Nat} : b0m (.v a) i := trivial
theorem g1g {id lo n i : Nat} (hl : ¬ id = i) : b0m (.rs id lo n) i := hl
theorem c7p {v : AV} {sz : Nat} {rows : List (List AV)} (hv : b1s h v sz rows) {i : Nat} (hi : h.nx ≤ i) : b0m v i := by
  rcases hv with ⟨rfl, _⟩ | ⟨id, rfl, _, hlt⟩
  · trivial
  · exact fun e => by omega
theorem c0b {es : List (List AV)} {i j : Nat} {c : AV} (h : at2 es i j = some c) : ∃ e, es[i]? = some e ∧ e[j]? = some c := by
  unfold at2 at h
  cases he : es[i]? with
  | none => simp [he] at h
  | some e => exact ⟨e, rfl, by rw [he] at h; exact h⟩
theorem c4k {α : Type} {f : α → List AV} {v : AV} {sz : Nat} {l : List α} (hv : b1s h v sz (List.map f l)) (hf : ∀ a, ∀ c ∈ f a, Frz c) (hl : ∀ a, (f a).length = sz) : Fz h v (.fs sz (List.map f l)) := by
  rcases hv with ⟨rfl, hr⟩ | ⟨id, rfl, ho, _⟩
  · rw [hr]; exact .nil sz
  · refine .rs id 0 _ sz _ _ ho (by simp) rfl (fun d hd => ?_) (fun i j c d h1 h2 => ?_)
    · obtain ⟨a, _, rfl⟩ := List.mem_map.1 hd; exact hl a
    · rw [Nat.zero_add] at h1
      rw [h1] at h2; cases h2
      obtain ⟨e, he, hc⟩ := c0b h1
      obtain ⟨a, _, rfl⟩ := List.mem_map.1 (List.mem_of_getElem? he)
      exact .refl _ (hf a _ (List.mem_of_getElem? hc))
theorem c4m {xs ys : List AV} (hz : FzL h xs ys) : xs.length = ys.length ∧ ∀ (i : Nat) c d, xs[i]? = some c → ys[i]? = some d → Fz h c d := by
  induction hz with
  | nil => exact ⟨rfl, fun i c d hc => by simp at hc⟩
  | cons a _ ih =>
    refine ⟨by simp [ih.1], fun i c d hc hd => ?_⟩
    cases i with
    | zero => simp at hc hd; subst hc; subst hd; exact a
    | succ i => simp at hc hd; exact ih.2 i c d hc hd
theorem c4l {xs ys : List AV} (hz : FzL h xs ys) : Fz h (.tup xs) (.tup ys) := .tup _ _ (c4m hz).1 (c4m hz).2
theorem d16 {n : Nat} {v r : AV} (ht : t n = v) (hz : Fz h v r) : b2q [.t n] r [] ⟨t, h⟩ := by
  subst ht; exact .inl ⟨rfl, [t n], rfl, hz⟩
theorem d17 {n m : Nat} {v r u s : AV} (ht : t n = v) (hu : t m = u) (hz : Fz h v r) (hz' : Fz h u s) : b2q [.t n, .t m] (.tup [r, s]) [] ⟨t, h⟩ := by
  subst ht; subst hu; exact .inl ⟨rfl, [t n, t m], rfl, c4l (.cons hz (.cons hz' .nil))⟩
theorem d14 {n sz id m : Nat} {cs : List AV} {r : AV} (ht : t n = .rp id 0 0) (ho : h.ob id = some (m, [cs])) (hl : cs.length = sz) (hz : Fz h (.agg cs) r) : b2q [.cell n true sz] r [] ⟨t, h⟩ := by
  refine .inl ⟨rfl, [.agg cs], ?_, hz⟩
  subst hl
  simp [b2h, eff, St.ev, ht, ho]
theorem b71 {n sz id m p : Nat} {cs : List AV} {r u s : AV} (ht : t n = .rp id 0 0) (ho : h.ob id = some (m, [cs])) (hl : cs.length = sz) (hu : t p = u) (hz : Fz h (.agg cs) r) (hz' : Fz h u s) : b2q [.cell n true sz, .t p] (.tup [r, s]) [] ⟨t, h⟩ := by
  refine .inl ⟨rfl, [.agg cs, u], ?_, c4l (.cons hz (.cons hz' .nil))⟩
  subst hl; subst hu
  simp [b2h, eff, St.ev, ht, ho]
theorem d1v {b : XCode} {Q : XExit → Slots → Heap → Prop} {t' : Slots} {h' : Heap} (hg : b36 ⟨t, h⟩ ⟨t', h'⟩) (hw : cw O b Q t' h') : cw O (.seq .ghost b) Q t h := ⟨⟨t', h'⟩, hg, hw⟩
def c08 (h : Heap) (v : AV) : Heap := match v with | .rs id _ _ => h.upd id none | .rp id _ _ => h.upd id none | _ => h
theorem c98 {id : Nat} : h.upd id none = h.but (· == id) := by
  simp only [Heap.upd, Heap.but, Heap.mk.injEq, and_true]
  funext j; by_cases e : j = id <;> simp [e]
theorem d31 {F : Nat → Bool} {s : Nat} {y : AV} (hc : b46 (h.only F) (t s) y) : b36 ⟨t, h⟩ ⟨upd t s y, h.but F⟩ := by
  refine ⟨F, rfl, rfl, fun id sz es' ho => ?_, fun j => ?_⟩
  · have ho' : (if F id then none else h.ob id) = some (sz, es') := ho
    split at ho'
    · cases ho'
    · rename_i hf
      exact ⟨by simpa using hf, es', ho', .inl rfl, fun i j d hd => ⟨d, hd, .inl rfl⟩⟩
  · show b46 _ (t j) (upd t s y j)
    by_cases e : j = s
    · subst e; rw [b9r]; exact hc
    · rw [b9q e]; exact .inl rfl
theorem d3a {a : Value} : c08 h (.v a) = h := rfl
theorem d3c {id lo n : Nat} : c08 h (.rs id lo n) = h.upd id none := rfl
theorem d1w {b : XCode} {Q : XExit → Slots → Heap → Prop} {s id n : Nat} {cs : List AV} (hs : t s = .rp id 0 0) (ho : h.ob id = some (n, [cs])) (hf : ∀ c ∈ cs, Frz c)
    (hw : cw O b Q (upd t s (.fp cs 0)) (h.upd id none)) : cw O (.seq .ghost b) Q t h := by
  refine d1v (h' := h.upd id none) ?_ hw
  rw [c98]
  refine d31 (.inr ⟨?_, .fp _ _ hf⟩)
  rw [hs]
  exact .rp id 0 0 n [cs] cs cs (by simp [Heap.only, ho]) rfl rfl (fun i c d h1 h2 => by rw [h1] at h2; cases h2; exact .refl _ (hf _ (List.mem_of_getElem? h1)))
theorem d4s {α : Type} {f : α → List AV} {sz b id2 : Nat} {s : AV} {l : List α} {r : List α} {a : α} {raw : List AV} (hs : b1s h s sz (List.map f l)) (hx : h.ob id2 = some (sz, [raw])) (hd : b0m s id2)
    (ha : ap b l [a] = some r) (hk : k (.rs h.nx 0 (List.length r)) (b3q h s (sz, List.map f l ++ [raw]))) : @b6v sz b s (.rs id2 0 1) h ⟨k⟩ := by
  obtain ⟨hb, rfl⟩ := b7t ha
  rw [List.length_append] at hk
  refine ⟨_, _, ?_, hk⟩
  simp only [eff, evT, if_true, Nat.one_ne_zero, if_false]
  have hb' : (l.length + 1) * b ≤ 2 ^ 40 := by simpa using hb
  rcases hs with ⟨rfl, hl⟩ | ⟨id, rfl, ho, hlt⟩
  · have hl' : l = [] := by simpa using hl
    subst hl'
    simp only [hx, Option.bind_some, List.map_nil, List.nil_append, List.length_nil, List.length_cons, Nat.zero_add, b7u, Nat.one_ne_zero, if_false]
    rw [if_pos ⟨trivial, by simp, by simpa using hb'⟩]
    simp
  · have hne : id ≠ id2 := hd
    simp only [ho, hx, Option.bind_some, List.length_map, b7v]
    rw [if_pos ⟨trivial, trivial, hne, by simp, by simp, hb'⟩]
    simp [List.take_of_length_le]
end
theorem c9d {h : Heap} {v : AV} {o : Ob} : (b3q h v o).nx = nxs h.nx := by cases v <;> rfl
theorem c9e {h : Heap} {v : AV} {o : Ob} {i : Nat} (hi : b0m v i) (hl : i < h.nx) : (b3q h v o).ob i = h.ob i := by
  unfold b3q
  split
  · rw [c19 (by exact hl), c8k]; exact fun e => hi e.symm
  · exact c19 hl
theorem c9c {h : Heap} {v : AV} {o : Ob} {i : Nat} (hl : i = h.nx) : (b3q h v o).ob i = some o := by
  unfold b3q
  split
  · exact c18 hl
  · exact c18 hl
theorem d3b {h : Heap} {v : AV} : (c08 h v).nx = h.nx := by cases v <;> rfl
attribute [go_sem ↓] d5e d57 d4u d5p d4y d5t d62 d6i d6m c5o c4r
attribute [go_sem] c5o c4r b7u b7v c9d d3a d3c d3b Nat.zero_add g34 g33
end Go.Nw
namespace Go.Nw
theorem b2z {O l b Q t h} (post : Slots → Heap → Prop) (h1 : ∀ K : Slots → Heap → Prop, (∀ t h, post t h → K t h) → b0a O l K t h) (h2 : ∀ t h, post t h → cw O b Q t h) : cw O (.seq (.reg l) b) Q t h :=
  d1y post (h1 post fun _ _ h => h) h2
theorem d10 {O l Q t h} (post : Slots → Heap → Prop) (h1 : ∀ K : Slots → Heap → Prop, (∀ t h, post t h → K t h) → b0a O l K t h) (h2 : ∀ t h, post t h → Q .normal t h) : cw O (.reg l) Q t h :=
  d1z post (h1 post fun _ _ h => h) h2
theorem d7u (x : Int) : (eI x).length = 1 := rfl
end Go.Nw
namespace Go.Nw
theorem b4g {h h' : Heap} {v : AV} {sz : Nat} {rows : List (List AV)} (hv : b1s h v sz rows) (hk : ∀ j, ¬ b0m v j → j < h.nx → h'.ob j = h.ob j) (hn : h.nx ≤ h'.nx) : b1s h' v sz rows := by
  rcases hv with ⟨rfl, hr⟩ | ⟨id, rfl, ho, hlt⟩
  · exact .inl ⟨rfl, hr⟩
  · exact .inr ⟨id, rfl, by rw [hk id (by simp [b0m]) hlt]; exact ho, by omega⟩
end Go.Nw
namespace Go.Nw
theorem b2d {a b : Nat} (h : ¬ a = b) : ¬ b = a := fun e => h e.symm
theorem b06 {α : Type} {c : Bool} {a b : α} (h : c = true) : (if c then a else b) = a := if_pos h
theorem b05 {α : Type} {c : Bool} {a b : α} (h : c = false) : (if c then a else b) = b := if_neg (by simp [h])
attribute [go_sem] c19 c18 c8k g4s c9e c9c List.length_map Bool.true_or Bool.or_true Bool.false_or Bool.or_false Bool.true_and Bool.and_true Bool.false_and Bool.and_false Bool.false_eq_true List.length_set
end Go.Nw
namespace Go.Nw
end Go.Nw
namespace Go.Nw
end Go.Nw
namespace Go.Nw
def mn (a b : Int) : Int := if b < a then b else a
def mx (a b : Int) : Int := if b > a then b else a
theorem d72 (a b : Int) : mn a b = min a b := by unfold mn; split <;> omega
theorem d77 (a b : Int) : mx a b = max a b := by unfold mx; split <;> omega
def b5p (xs : List AV) [k : K1 AV] : Prop := ∃ r, b21 b4f xs = some r ∧ k.k r
def b5o (xs : List AV) [k : K1 AV] : Prop := ∃ r, b21 b4e xs = some r ∧ k.k r
section
variable {O : Orac} {d : Option Nat} {g : Nat} {b0 : Bool} {r : List XO} {K : Slots → Heap → Prop} {t : Slots} {h : Heap} {k : AV → Heap → Prop} {k1 : AV → Prop}
theorem d5c {xs} : b0a O (⟨d, none, .min xs⟩ :: r) K t h = @iop O (.min xs) t h ⟨fun v h' => b0a O r K (b0b t d v) h'⟩ := b1f rfl
theorem d55 {xs} : b0a O (⟨d, some (g, b0), .min xs⟩ :: r) K t h = @b1c (t g) b0 ⟨@iop O (.min xs) (upd t g (B b0)) h ⟨fun v h' => b0a O r K (b0b (upd t g (B b0)) d v) h'⟩⟩ ⟨b0a O r K (b0b (upd t g (B (!b0))) d U) h⟩ ⟨b0a O r K (b0b t d U) h⟩ := b1g rfl
theorem d5b {xs} : b0a O (⟨d, none, .max xs⟩ :: r) K t h = @iop O (.max xs) t h ⟨fun v h' => b0a O r K (b0b t d v) h'⟩ := b1f rfl
theorem d54 {xs} : b0a O (⟨d, some (g, b0), .max xs⟩ :: r) K t h = @b1c (t g) b0 ⟨@iop O (.max xs) (upd t g (B b0)) h ⟨fun v h' => b0a O r K (b0b (upd t g (B b0)) d v) h'⟩⟩ ⟨b0a O r K (b0b (upd t g (B (!b0))) d U) h⟩ ⟨b0a O r K (b0b t d U) h⟩ := b1g rfl
theorem d60 {xs} : @iop O (.min xs) t h ⟨k⟩ = @b5p (xs.map (evT t)) ⟨fun v => k v h⟩ := by
  simp only [iop, op1, b5p, eff, Option.map_eq_some_iff]
  apply propext; constructor
  · rintro ⟨r, h', ⟨x, h1, h2⟩, hk⟩; cases h2; exact ⟨_, h1, hk⟩
  · rintro ⟨r, h1, hk⟩; exact ⟨r, h, ⟨r, h1, rfl⟩, hk⟩
theorem d6z {xs} : @iop O (.max xs) t h ⟨k⟩ = @b5o (xs.map (evT t)) ⟨fun v => k v h⟩ := by
  simp only [iop, op1, b5o, eff, Option.map_eq_some_iff]
  apply propext; constructor
  · rintro ⟨r, h', ⟨x, h1, h2⟩, hk⟩; cases h2; exact ⟨_, h1, hk⟩
  · rintro ⟨r, h1, hk⟩; exact ⟨r, h, ⟨r, h1, rfl⟩, hk⟩
theorem c6c {a b : Int} {kd kd'} : @b5p [.v (.int kd a), .v (.int kd' b)] ⟨k1⟩ = k1 (.v (.int kd (mn a b))) := by
  simp [b5p, b21, b4f, mn]
theorem c6a {a b : Int} {kd kd'} : @b5o [.v (.int kd a), .v (.int kd' b)] ⟨k1⟩ = k1 (.v (.int kd (mx a b))) := by
  simp [b5o, b21, b4e, mx]
theorem c6d {a b c : Int} {kd kd' kd''} : @b5p [.v (.int kd a), .v (.int kd' b), .v (.int kd'' c)] ⟨k1⟩ = k1 (.v (.int kd (mn (mn a b) c))) := by
  simp [b5p, b21, b4f, mn]
  exact Iff.rfl
theorem c6b {a b c : Int} {kd kd' kd''} : @b5o [.v (.int kd a), .v (.int kd' b), .v (.int kd'' c)] ⟨k1⟩ = k1 (.v (.int kd (mx (mx a b) c))) := by
  simp [b5o, b21, b4e, mx]
theorem d45 {agg n o x} : b0a O (⟨d, none, .fld agg n o x⟩ :: r) K t h = @iop O (.fld agg n o x) t h ⟨fun v h' => b0a O r K (b0b t d v) h'⟩ := b1f rfl
theorem d5z {agg n o x} : b0a O (⟨d, some (g, b0), .fld agg n o x⟩ :: r) K t h = @b1c (t g) b0 ⟨@iop O (.fld agg n o x) (upd t g (B b0)) h ⟨fun v h' => b0a O r K (b0b (upd t g (B b0)) d v) h'⟩⟩ ⟨b0a O r K (b0b (upd t g (B (!b0))) d U) h⟩ ⟨b0a O r K (b0b t d U) h⟩ := b1g rfl
def c1e (agg : Bool) (n o : Nat) (x : AV) [k : K1 AV] : Prop := match x with | .agg cs => b3f agg n cs o k.k | _ => False
theorem d6t {agg n o x} : @iop O (.fld agg n o x) t h ⟨k⟩ = @c1e agg n o (evT t x) ⟨fun v => k v h⟩ := by
  simp only [iop, op1, c1e, eff]
  generalize evT t x = y
  cases y with
  | agg cs =>
    simp only [b3f, b2m]
    cases agg with
    | true =>
      simp only [if_true]
      apply propext; constructor
      · rintro ⟨r, h', he, hk⟩; split at he
        · rename_i ho; cases he; exact ⟨ho, hk⟩
        · cases he
      · rintro ⟨h1, h2⟩; exact ⟨_, _, by rw [if_pos h1], h2⟩
    | false =>
      simp only [Bool.false_eq_true, if_false, Option.map_eq_some_iff]
      apply propext; constructor
      · rintro ⟨r, h', ⟨x, h1, h2⟩, hk⟩; cases h2; exact ⟨_, h1, hk⟩
      · rintro ⟨v, h1, h2⟩; exact ⟨v, h, ⟨v, h1, rfl⟩, h2⟩
  | _ => simp
theorem c5x {agg n o cs} : @c1e agg n o (.agg cs) ⟨k1⟩ = @b6w agg n cs o ⟨k1⟩ := rfl
end
def b59 (v : AV) (j : Nat) : Bool := match v with | .rs id _ _ => id == j | .rp id _ _ => id == j | _ => false
theorem c97 {h : Heap} {F : Nat → Bool} {j : Nat} (hj : F j = false) : (h.but F).ob j = h.ob j := by simp [Heap.but, hj]
theorem c96 {h : Heap} {F : Nat → Bool} : (h.but F).nx = h.nx := by simp [Heap.but]
theorem g1u {h : Heap} {F : Nat → Bool} {j : Nat} (hj : F j = true) : (h.only F).ob j = h.ob j := by simp [Heap.only, hj]
inductive FzR (h : Heap) : List (List AV) → List (List AV) → Prop
  | nil : FzR h [] []
  | cons {x y : List AV} {xs ys : List (List AV)} (a : FzL h x y) (b : FzR h xs ys) : FzR h (x :: xs) (y :: ys)
attribute [go_sem ↓] d5c d55 d5b d54 d60 d6z d45 d5z d6t c6c c6a c6d c6b c5x
attribute [go_sem] c6c c6a c6d c6b c5x c96 c97
end Go.Nw
namespace Go.Nw
theorem c8l {v : AV} {j : Nat} (hj : ¬ b0m v j) : b59 v j = true := by
  unfold b0m at hj; unfold b59
  split at hj
  · simpa using hj
  · simp at hj
end Go.Nw
namespace Go.Nw
def sub {α : Type} (l : List α) (a b : Int) : Option (List α) := if 0 ≤ a ∧ a ≤ b ∧ b ≤ l.length then some ((l.take b.toNat).drop a.toNat) else none
def d7a (n : Nat) (x : AV) (lo hi : Option AV) (h : Heap) [k : K2] : Prop := ∃ (r' : AV) (h' : Heap), ((b1k x).bind fun len =>
    (b3e 0 lo).bind fun l =>
    (b3i len hi).bind fun r =>
    if l ≤ r then
      match x with
      | .fs sz es => if sz = n then some (.fs sz ((es.take r).drop l), h) else none
      | .rs id lo' _ => (h.ob id).bind fun o => if (l = 0 ∨ l < r) ∧ o.1 = n then some (.rs id (lo' + l) (r - l), h) else none
      | _ => none
    else none) = some (r', h') ∧ k.k r' h'
section
variable {O : Orac} {d : Option Nat} {g : Nat} {b0 : Bool} {r : List XO} {K : Slots → Heap → Prop} {t : Slots} {h : Heap} {k : AV → Heap → Prop}
theorem d5i {n x lo hi} : b0a O (⟨d, none, .slc n x lo hi⟩ :: r) K t h = @iop O (.slc n x lo hi) t h ⟨fun v h' => b0a O r K (b0b t d v) h'⟩ := b1f rfl
theorem d6b {n x lo hi} : b0a O (⟨d, some (g, b0), .slc n x lo hi⟩ :: r) K t h = @b1c (t g) b0 ⟨@iop O (.slc n x lo hi) (upd t g (B b0)) h ⟨fun v h' => b0a O r K (b0b (upd t g (B b0)) d v) h'⟩⟩ ⟨b0a O r K (b0b (upd t g (B (!b0))) d U) h⟩ ⟨b0a O r K (b0b t d U) h⟩ := b1g rfl
theorem d66 {n x lo hi} : @iop O (.slc n x lo hi) t h ⟨k⟩ = @d7a n (evT t x) (lo.map (evT t)) (hi.map (evT t)) h ⟨k⟩ := rfl
end
attribute [go_sem ↓] d5i d6b d66
attribute [go_sem] Option.map_none
end Go.Nw
namespace Go.Nw
theorem c8m {h : Heap} {v : AV} {sz : Nat} {rows : List (List AV)} {j : Nat} (hv : b1s h v sz rows) (hj : b0m v j) : b59 v j = false := by
  rcases hv with ⟨rfl, _⟩ | ⟨id, rfl, _, _⟩
  · rfl
  · simpa [b59, b0m] using hj
end Go.Nw
namespace Go.Nw
def b0l (k : IntKind) (a b : Int) : Int := k.wrap (BitVec.ofInt k.bits a &&& BitVec.ofInt k.bits b).toNat
def c29 (k : IntKind) (a b : Int) : Int := k.wrap (BitVec.ofInt k.bits a ||| BitVec.ofInt k.bits b).toNat
def c3a (k : IntKind) (a b : Int) : Int := k.wrap (BitVec.ofInt k.bits a ^^^ BitVec.ofInt k.bits b).toNat
def c26 (k : IntKind) (a b : Int) : Int := k.wrap (BitVec.ofInt k.bits a &&& ~~~(BitVec.ofInt k.bits b)).toNat
def c28 (k : IntKind) (a : Int) : Int := k.wrap (BitVec.ofInt k.bits (if k.signed then -1 else k.max) ^^^ BitVec.ofInt k.bits a).toNat
abbrev b1n (a b : Int) : Int := b0l .i64 a b
def b9o (k : IntKind) (a b : Int) : Int := k.wrap (a * 2 ^ (Nat.min b.toNat k.bits))
def b4k (k : IntKind) (a b : Int) : Int := a.fdiv (2 ^ (Nat.min b.toNat k.bits))
def shl (k : IntKind) (a b : Int) : Option Int := if b < 0 then none else some (b9o k a b)
def shr (k : IntKind) (a b : Int) : Option Int := if b < 0 then none else some (b4k k a b)
def quo (k : IntKind) (a b : Int) : Option Int := if b = 0 then none else some (k.wrap (a.tdiv b))
def rem (a b : Int) : Option Int := if b = 0 then none else some (a.tmod b)
theorem g37 {k : IntKind} {a b : Int} (h : 0 ≤ b) : shl k a b = some (b9o k a b) := by unfold shl; rw [if_neg (by omega)]
theorem b7g {k : IntKind} {a b : Int} (h : 0 ≤ b) : shr k a b = some (b4k k a b) := by unfold shr; rw [if_neg (by omega)]
section
variable {k : AV → Prop} {e : EqK} {kd kd' : IntKind} {a b : Int}
theorem c4t : @b1h .and e (.v (.int kd a)) (.v (.int kd b)) ⟨k⟩ = k (.v (.int kd (b0l kd a b))) := b2r (by simp [b1x, b16, b0l])
theorem c5f : @b1h .or e (.v (.int kd a)) (.v (.int kd b)) ⟨k⟩ = k (.v (.int kd (c29 kd a b))) := b2r (by simp [b1x, b16, c29])
theorem c5h : @b1h .xor e (.v (.int kd a)) (.v (.int kd b)) ⟨k⟩ = k (.v (.int kd (c3a kd a b))) := b2r (by simp [b1x, b16, c3a])
theorem c4w : @b1h .andNot e (.v (.int kd a)) (.v (.int kd b)) ⟨k⟩ = k (.v (.int kd (c26 kd a b))) := b2r (by simp [b1x, b16, c26])
theorem c1a {r : Int} (h : shl kd a b = some r) : @b1h .shl e (.v (.int kd a)) (.v (.int kd' b)) ⟨k⟩ = k (.v (.int kd r)) := by
  unfold shl at h; split at h
  · cases h
  · rename_i hb; cases h
    show b0y _ _ _ _ _ = _
    simp [b0y, b10, b1x, b57, hb, b9o]
theorem b1u {r : Int} (h : shr kd a b = some r) : @b1h .shr e (.v (.int kd a)) (.v (.int kd' b)) ⟨k⟩ = k (.v (.int kd r)) := by
  unfold shr at h; split at h
  · cases h
  · rename_i hb; cases h
    show b0y _ _ _ _ _ = _
    simp [b0y, b10, b1x, b57, hb, b4k]
theorem c6s : @iun .xor (.v (.int kd a)) ⟨k⟩ = k (.v (.int kd (c28 kd a))) := by
  show unK _ _ _ = _
  simp [unK, b4l, c28]
end
def c1c (kd : IntKind) (x : AV) [k : K1 AV] : Prop := match x with | .v (.int _ n) => k.k (.v (.int kd (kd.wrap n))) | _ => False
section
variable {O : Orac} {d : Option Nat} {g : Nat} {b0 : Bool} {r : List XO} {K : Slots → Heap → Prop} {t : Slots} {h : Heap} {k : AV → Heap → Prop} {k1 : AV → Prop}
theorem d43 {kd x} : b0a O (⟨d, none, .cvtI kd x⟩ :: r) K t h = @iop O (.cvtI kd x) t h ⟨fun v h' => b0a O r K (b0b t d v) h'⟩ := b1f rfl
theorem d5x {kd x} : b0a O (⟨d, some (g, b0), .cvtI kd x⟩ :: r) K t h = @b1c (t g) b0 ⟨@iop O (.cvtI kd x) (upd t g (B b0)) h ⟨fun v h' => b0a O r K (b0b (upd t g (B b0)) d v) h'⟩⟩ ⟨b0a O r K (b0b (upd t g (B (!b0))) d U) h⟩ ⟨b0a O r K (b0b t d U) h⟩ := b1g rfl
theorem d6r {kd x} : @iop O (.cvtI kd x) t h ⟨k⟩ = @c1c kd (evT t x) ⟨fun v => k v h⟩ := by
  simp only [iop, op1, c1c, eff]
  generalize evT t x = y
  cases y with
  | v z =>
    cases z with
    | int k' n => exact ex1
    | _ => exact ex0
  | _ => exact ex0
theorem c5t {kd kd' : IntKind} {n : Int} : @c1c kd (.v (.int kd' n)) ⟨k1⟩ = k1 (.v (.int kd (kd.wrap n))) := rfl
end
attribute [go_sem ↓] d43 d5x d6r c5t c4t c5f c5h c4w c6s
attribute [go_sem] c5t c4t c5f c5h c4w c6s
end Go.Nw
namespace Go.Nw
theorem c4y {k : AV → Prop} {a b c d : Int} : @b1h .eql (.flat [.i, .i]) (.agg [I a, I b]) (.agg [I c, I d]) ⟨k⟩ = k (B (decide (a = c) && decide (b = d))) := by
  show b0y _ _ _ _ _ = _
  by_cases h1 : a = c <;> by_cases h2 : b = d <;> simp [b0y, b10, b1l, b3h, h1, h2]
theorem c49 {k : AV → Prop} {a b c d : Int} : @b1h .neq (.flat [.i, .i]) (.agg [I a, I b]) (.agg [I c, I d]) ⟨k⟩ = k (B (!(decide (a = c) && decide (b = d)))) := by
  show b0y _ _ _ _ _ = _
  by_cases h1 : a = c <;> by_cases h2 : b = d <;> simp [b0y, b10, b1l, b3h, h1, h2]
theorem c4z {k : AV → Prop} {a b c d x y : Int} : @b1h .eql (.flat [.i, .i, .i]) (.agg [I a, I b, I x]) (.agg [I c, I d, I y]) ⟨k⟩ = k (B (decide (a = c) && decide (b = d) && decide (x = y))) := by
  show b0y _ _ _ _ _ = _
  by_cases h1 : a = c <;> by_cases h2 : b = d <;> by_cases h3 : x = y <;> simp [b0y, b10, b1l, b3h, h1, h2, h3]
theorem c5a {k : AV → Prop} {a b c d x y : Int} : @b1h .neq (.flat [.i, .i, .i]) (.agg [I a, I b, I x]) (.agg [I c, I d, I y]) ⟨k⟩ = k (B (!(decide (a = c) && decide (b = d) && decide (x = y)))) := by
  show b0y _ _ _ _ _ = _
  by_cases h1 : a = c <;> by_cases h2 : b = d <;> by_cases h3 : x = y <;> simp [b0y, b10, b1l, b3h, h1, h2, h3]
theorem c5b {k : AV → Prop} : @b1h .eql .slice (.v (.slice none 0 0)) (.v (.slice none 0 0)) ⟨k⟩ = k (B true) := by
  show b0y _ _ _ _ _ = _
  simp [b0y, b10, b1l, b5q]
theorem c5d {k : AV → Prop} : @b1h .neq .slice (.v (.slice none 0 0)) (.v (.slice none 0 0)) ⟨k⟩ = k (B false) := by
  show b0y _ _ _ _ _ = _
  simp [b0y, b10, b1l, b5q]
theorem c5c {k : AV → Prop} {a b c : Nat} : @b1h .eql .slice (.rs a b c) (.v (.slice none 0 0)) ⟨k⟩ = k (B false) := by
  show b0y _ _ _ _ _ = _
  simp [b0y, b10, b1l, b5q]
theorem c5e {k : AV → Prop} {a b c : Nat} : @b1h .neq .slice (.rs a b c) (.v (.slice none 0 0)) ⟨k⟩ = k (B true) := by
  show b0y _ _ _ _ _ = _
  simp [b0y, b10, b1l, b5q]
attribute [go_sem ↓] c4y c49 c4z c5a c5b c5d c5c c5e
attribute [go_sem] c4y c49 c4z c5a c5b c5d c5c c5e
attribute [go_sem] beq_self_eq_true eq_self
theorem nxa {a b : Nat} : (nxs a = nxs b) = (a = b) := by simp [nxs]
theorem nxb {a b : Nat} : (nxs a < nxs b) = (a < b) := by simp [nxs]
theorem d96 {n : Nat} : (n < nxs n) = True := by simp only [nxs, eq_iff_iff, iff_true]; omega
theorem g0m {i n : Nat} (h : i < n) : (i < nxs n) = True := by simp only [nxs, eq_iff_iff, iff_true]; omega
theorem d8a {n : Nat} : (n = nxs n) = False := by simp only [nxs, eq_iff_iff, iff_false]; omega
theorem d8q {n : Nat} : (nxs n = n) = False := by simp only [nxs, eq_iff_iff, iff_false]; omega
theorem d87 {i n : Nat} (h : i < n) : (i = nxs n) = False := by simp only [nxs, eq_iff_iff, iff_false]; omega
theorem d9o {i n : Nat} (h : i < n) : (nxs n = i) = False := by simp only [nxs, eq_iff_iff, iff_false]; omega
theorem g0e {n : Nat} : (n < nxs (nxs n)) = True := by simp only [nxs, eq_iff_iff, iff_true]; omega
theorem g0u {i n : Nat} (h : i < n) : (i < nxs (nxs n)) = True := by simp only [nxs, eq_iff_iff, iff_true]; omega
theorem d8i {n : Nat} : (n = nxs (nxs n)) = False := by simp only [nxs, eq_iff_iff, iff_false]; omega
theorem d8y {n : Nat} : (nxs (nxs n) = n) = False := by simp only [nxs, eq_iff_iff, iff_false]; omega
theorem d9f {i n : Nat} (h : i < n) : (i = nxs (nxs n)) = False := by simp only [nxs, eq_iff_iff, iff_false]; omega
theorem d9w {i n : Nat} (h : i < n) : (nxs (nxs n) = i) = False := by simp only [nxs, eq_iff_iff, iff_false]; omega
theorem g0f {n : Nat} : (n < nxs (nxs (nxs n))) = True := by simp only [nxs, eq_iff_iff, iff_true]; omega
theorem g0v {i n : Nat} (h : i < n) : (i < nxs (nxs (nxs n))) = True := by simp only [nxs, eq_iff_iff, iff_true]; omega
theorem d8j {n : Nat} : (n = nxs (nxs (nxs n))) = False := by simp only [nxs, eq_iff_iff, iff_false]; omega
theorem d8z {n : Nat} : (nxs (nxs (nxs n)) = n) = False := by simp only [nxs, eq_iff_iff, iff_false]; omega
theorem d9g {i n : Nat} (h : i < n) : (i = nxs (nxs (nxs n))) = False := by simp only [nxs, eq_iff_iff, iff_false]; omega
theorem d9x {i n : Nat} (h : i < n) : (nxs (nxs (nxs n)) = i) = False := by simp only [nxs, eq_iff_iff, iff_false]; omega
theorem g0g {n : Nat} : (n < nxs (nxs (nxs (nxs n)))) = True := by simp only [nxs, eq_iff_iff, iff_true]; omega
theorem g0w {i n : Nat} (h : i < n) : (i < nxs (nxs (nxs (nxs n)))) = True := by simp only [nxs, eq_iff_iff, iff_true]; omega
theorem d8k {n : Nat} : (n = nxs (nxs (nxs (nxs n)))) = False := by simp only [nxs, eq_iff_iff, iff_false]; omega
theorem d80 {n : Nat} : (nxs (nxs (nxs (nxs n))) = n) = False := by simp only [nxs, eq_iff_iff, iff_false]; omega
theorem d9h {i n : Nat} (h : i < n) : (i = nxs (nxs (nxs (nxs n)))) = False := by simp only [nxs, eq_iff_iff, iff_false]; omega
theorem d9y {i n : Nat} (h : i < n) : (nxs (nxs (nxs (nxs n))) = i) = False := by simp only [nxs, eq_iff_iff, iff_false]; omega
theorem g0h {n : Nat} : (n < nxs (nxs (nxs (nxs (nxs n))))) = True := by simp only [nxs, eq_iff_iff, iff_true]; omega
theorem g0x {i n : Nat} (h : i < n) : (i < nxs (nxs (nxs (nxs (nxs n))))) = True := by simp only [nxs, eq_iff_iff, iff_true]; omega
theorem d8l {n : Nat} : (n = nxs (nxs (nxs (nxs (nxs n))))) = False := by simp only [nxs, eq_iff_iff, iff_false]; omega
theorem d81 {n : Nat} : (nxs (nxs (nxs (nxs (nxs n)))) = n) = False := by simp only [nxs, eq_iff_iff, iff_false]; omega
theorem d9i {i n : Nat} (h : i < n) : (i = nxs (nxs (nxs (nxs (nxs n))))) = False := by simp only [nxs, eq_iff_iff, iff_false]; omega
theorem d9z {i n : Nat} (h : i < n) : (nxs (nxs (nxs (nxs (nxs n)))) = i) = False := by simp only [nxs, eq_iff_iff, iff_false]; omega
theorem g0i {n : Nat} : (n < nxs (nxs (nxs (nxs (nxs (nxs n)))))) = True := by simp only [nxs, eq_iff_iff, iff_true]; omega
theorem g0y {i n : Nat} (h : i < n) : (i < nxs (nxs (nxs (nxs (nxs (nxs n)))))) = True := by simp only [nxs, eq_iff_iff, iff_true]; omega
theorem d8m {n : Nat} : (n = nxs (nxs (nxs (nxs (nxs (nxs n)))))) = False := by simp only [nxs, eq_iff_iff, iff_false]; omega
theorem d82 {n : Nat} : (nxs (nxs (nxs (nxs (nxs (nxs n))))) = n) = False := by simp only [nxs, eq_iff_iff, iff_false]; omega
theorem d9j {i n : Nat} (h : i < n) : (i = nxs (nxs (nxs (nxs (nxs (nxs n)))))) = False := by simp only [nxs, eq_iff_iff, iff_false]; omega
theorem d90 {i n : Nat} (h : i < n) : (nxs (nxs (nxs (nxs (nxs (nxs n))))) = i) = False := by simp only [nxs, eq_iff_iff, iff_false]; omega
theorem g0j {n : Nat} : (n < nxs (nxs (nxs (nxs (nxs (nxs (nxs n))))))) = True := by simp only [nxs, eq_iff_iff, iff_true]; omega
theorem g0z {i n : Nat} (h : i < n) : (i < nxs (nxs (nxs (nxs (nxs (nxs (nxs n))))))) = True := by simp only [nxs, eq_iff_iff, iff_true]; omega
theorem d8n {n : Nat} : (n = nxs (nxs (nxs (nxs (nxs (nxs (nxs n))))))) = False := by simp only [nxs, eq_iff_iff, iff_false]; omega
theorem d83 {n : Nat} : (nxs (nxs (nxs (nxs (nxs (nxs (nxs n)))))) = n) = False := by simp only [nxs, eq_iff_iff, iff_false]; omega
theorem d9k {i n : Nat} (h : i < n) : (i = nxs (nxs (nxs (nxs (nxs (nxs (nxs n))))))) = False := by simp only [nxs, eq_iff_iff, iff_false]; omega
theorem d91 {i n : Nat} (h : i < n) : (nxs (nxs (nxs (nxs (nxs (nxs (nxs n)))))) = i) = False := by simp only [nxs, eq_iff_iff, iff_false]; omega
theorem g0k {n : Nat} : (n < nxs (nxs (nxs (nxs (nxs (nxs (nxs (nxs n)))))))) = True := by simp only [nxs, eq_iff_iff, iff_true]; omega
theorem g00 {i n : Nat} (h : i < n) : (i < nxs (nxs (nxs (nxs (nxs (nxs (nxs (nxs n)))))))) = True := by simp only [nxs, eq_iff_iff, iff_true]; omega
theorem d8o {n : Nat} : (n = nxs (nxs (nxs (nxs (nxs (nxs (nxs (nxs n)))))))) = False := by simp only [nxs, eq_iff_iff, iff_false]; omega
theorem d84 {n : Nat} : (nxs (nxs (nxs (nxs (nxs (nxs (nxs (nxs n))))))) = n) = False := by simp only [nxs, eq_iff_iff, iff_false]; omega
theorem d9l {i n : Nat} (h : i < n) : (i = nxs (nxs (nxs (nxs (nxs (nxs (nxs (nxs n)))))))) = False := by simp only [nxs, eq_iff_iff, iff_false]; omega
theorem d92 {i n : Nat} (h : i < n) : (nxs (nxs (nxs (nxs (nxs (nxs (nxs (nxs n))))))) = i) = False := by simp only [nxs, eq_iff_iff, iff_false]; omega
theorem g0l {n : Nat} : (n < nxs (nxs (nxs (nxs (nxs (nxs (nxs (nxs (nxs n))))))))) = True := by simp only [nxs, eq_iff_iff, iff_true]; omega
theorem g01 {i n : Nat} (h : i < n) : (i < nxs (nxs (nxs (nxs (nxs (nxs (nxs (nxs (nxs n))))))))) = True := by simp only [nxs, eq_iff_iff, iff_true]; omega
theorem d8p {n : Nat} : (n = nxs (nxs (nxs (nxs (nxs (nxs (nxs (nxs (nxs n))))))))) = False := by simp only [nxs, eq_iff_iff, iff_false]; omega
theorem d85 {n : Nat} : (nxs (nxs (nxs (nxs (nxs (nxs (nxs (nxs (nxs n)))))))) = n) = False := by simp only [nxs, eq_iff_iff, iff_false]; omega
theorem d9m {i n : Nat} (h : i < n) : (i = nxs (nxs (nxs (nxs (nxs (nxs (nxs (nxs (nxs n))))))))) = False := by simp only [nxs, eq_iff_iff, iff_false]; omega
theorem d93 {i n : Nat} (h : i < n) : (nxs (nxs (nxs (nxs (nxs (nxs (nxs (nxs (nxs n)))))))) = i) = False := by simp only [nxs, eq_iff_iff, iff_false]; omega
theorem d97 {n : Nat} : (n < nxs (nxs (nxs (nxs (nxs (nxs (nxs (nxs (nxs (nxs n)))))))))) = True := by simp only [nxs, eq_iff_iff, iff_true]; omega
theorem g0n {i n : Nat} (h : i < n) : (i < nxs (nxs (nxs (nxs (nxs (nxs (nxs (nxs (nxs (nxs n)))))))))) = True := by simp only [nxs, eq_iff_iff, iff_true]; omega
theorem d8b {n : Nat} : (n = nxs (nxs (nxs (nxs (nxs (nxs (nxs (nxs (nxs (nxs n)))))))))) = False := by simp only [nxs, eq_iff_iff, iff_false]; omega
theorem d8r {n : Nat} : (nxs (nxs (nxs (nxs (nxs (nxs (nxs (nxs (nxs (nxs n))))))))) = n) = False := by simp only [nxs, eq_iff_iff, iff_false]; omega
theorem d88 {i n : Nat} (h : i < n) : (i = nxs (nxs (nxs (nxs (nxs (nxs (nxs (nxs (nxs (nxs n)))))))))) = False := by simp only [nxs, eq_iff_iff, iff_false]; omega
theorem d9p {i n : Nat} (h : i < n) : (nxs (nxs (nxs (nxs (nxs (nxs (nxs (nxs (nxs (nxs n))))))))) = i) = False := by simp only [nxs, eq_iff_iff, iff_false]; omega
theorem d98 {n : Nat} : (n < nxs (nxs (nxs (nxs (nxs (nxs (nxs (nxs (nxs (nxs (nxs n))))))))))) = True := by simp only [nxs, eq_iff_iff, iff_true]; omega
theorem g0o {i n : Nat} (h : i < n) : (i < nxs (nxs (nxs (nxs (nxs (nxs (nxs (nxs (nxs (nxs (nxs n))))))))))) = True := by simp only [nxs, eq_iff_iff, iff_true]; omega
theorem d8c {n : Nat} : (n = nxs (nxs (nxs (nxs (nxs (nxs (nxs (nxs (nxs (nxs (nxs n))))))))))) = False := by simp only [nxs, eq_iff_iff, iff_false]; omega
theorem d8s {n : Nat} : (nxs (nxs (nxs (nxs (nxs (nxs (nxs (nxs (nxs (nxs (nxs n)))))))))) = n) = False := by simp only [nxs, eq_iff_iff, iff_false]; omega
theorem d89 {i n : Nat} (h : i < n) : (i = nxs (nxs (nxs (nxs (nxs (nxs (nxs (nxs (nxs (nxs (nxs n))))))))))) = False := by simp only [nxs, eq_iff_iff, iff_false]; omega
theorem d9q {i n : Nat} (h : i < n) : (nxs (nxs (nxs (nxs (nxs (nxs (nxs (nxs (nxs (nxs (nxs n)))))))))) = i) = False := by simp only [nxs, eq_iff_iff, iff_false]; omega
theorem d99 {n : Nat} : (n < nxs (nxs (nxs (nxs (nxs (nxs (nxs (nxs (nxs (nxs (nxs (nxs n)))))))))))) = True := by simp only [nxs, eq_iff_iff, iff_true]; omega
theorem g0p {i n : Nat} (h : i < n) : (i < nxs (nxs (nxs (nxs (nxs (nxs (nxs (nxs (nxs (nxs (nxs (nxs n)))))))))))) = True := by simp only [nxs, eq_iff_iff, iff_true]; omega
theorem d8d {n : Nat} : (n = nxs (nxs (nxs (nxs (nxs (nxs (nxs (nxs (nxs (nxs (nxs (nxs n)))))))))))) = False := by simp only [nxs, eq_iff_iff, iff_false]; omega
theorem d8t {n : Nat} : (nxs (nxs (nxs (nxs (nxs (nxs (nxs (nxs (nxs (nxs (nxs (nxs n))))))))))) = n) = False := by simp only [nxs, eq_iff_iff, iff_false]; omega
theorem d9a {i n : Nat} (h : i < n) : (i = nxs (nxs (nxs (nxs (nxs (nxs (nxs (nxs (nxs (nxs (nxs (nxs n)))))))))))) = False := by simp only [nxs, eq_iff_iff, iff_false]; omega
theorem d9r {i n : Nat} (h : i < n) : (nxs (nxs (nxs (nxs (nxs (nxs (nxs (nxs (nxs (nxs (nxs (nxs n))))))))))) = i) = False := by simp only [nxs, eq_iff_iff, iff_false]; omega
theorem g0a {n : Nat} : (n < nxs (nxs (nxs (nxs (nxs (nxs (nxs (nxs (nxs (nxs (nxs (nxs (nxs n))))))))))))) = True := by simp only [nxs, eq_iff_iff, iff_true]; omega
theorem g0q {i n : Nat} (h : i < n) : (i < nxs (nxs (nxs (nxs (nxs (nxs (nxs (nxs (nxs (nxs (nxs (nxs (nxs n))))))))))))) = True := by simp only [nxs, eq_iff_iff, iff_true]; omega
theorem d8e {n : Nat} : (n = nxs (nxs (nxs (nxs (nxs (nxs (nxs (nxs (nxs (nxs (nxs (nxs (nxs n))))))))))))) = False := by simp only [nxs, eq_iff_iff, iff_false]; omega
theorem d8u {n : Nat} : (nxs (nxs (nxs (nxs (nxs (nxs (nxs (nxs (nxs (nxs (nxs (nxs (nxs n)))))))))))) = n) = False := by simp only [nxs, eq_iff_iff, iff_false]; omega
theorem d9b {i n : Nat} (h : i < n) : (i = nxs (nxs (nxs (nxs (nxs (nxs (nxs (nxs (nxs (nxs (nxs (nxs (nxs n))))))))))))) = False := by simp only [nxs, eq_iff_iff, iff_false]; omega
theorem d9s {i n : Nat} (h : i < n) : (nxs (nxs (nxs (nxs (nxs (nxs (nxs (nxs (nxs (nxs (nxs (nxs (nxs n)))))))))))) = i) = False := by simp only [nxs, eq_iff_iff, iff_false]; omega
theorem g0b {n : Nat} : (n < nxs (nxs (nxs (nxs (nxs (nxs (nxs (nxs (nxs (nxs (nxs (nxs (nxs (nxs n)))))))))))))) = True := by simp only [nxs, eq_iff_iff, iff_true]; omega
theorem g0r {i n : Nat} (h : i < n) : (i < nxs (nxs (nxs (nxs (nxs (nxs (nxs (nxs (nxs (nxs (nxs (nxs (nxs (nxs n)))))))))))))) = True := by simp only [nxs, eq_iff_iff, iff_true]; omega
theorem d8f {n : Nat} : (n = nxs (nxs (nxs (nxs (nxs (nxs (nxs (nxs (nxs (nxs (nxs (nxs (nxs (nxs n)))))))))))))) = False := by simp only [nxs, eq_iff_iff, iff_false]; omega
theorem d8v {n : Nat} : (nxs (nxs (nxs (nxs (nxs (nxs (nxs (nxs (nxs (nxs (nxs (nxs (nxs (nxs n))))))))))))) = n) = False := by simp only [nxs, eq_iff_iff, iff_false]; omega
theorem d9c {i n : Nat} (h : i < n) : (i = nxs (nxs (nxs (nxs (nxs (nxs (nxs (nxs (nxs (nxs (nxs (nxs (nxs (nxs n)))))))))))))) = False := by simp only [nxs, eq_iff_iff, iff_false]; omega
theorem d9t {i n : Nat} (h : i < n) : (nxs (nxs (nxs (nxs (nxs (nxs (nxs (nxs (nxs (nxs (nxs (nxs (nxs (nxs n))))))))))))) = i) = False := by simp only [nxs, eq_iff_iff, iff_false]; omega
theorem g0c {n : Nat} : (n < nxs (nxs (nxs (nxs (nxs (nxs (nxs (nxs (nxs (nxs (nxs (nxs (nxs (nxs (nxs n))))))))))))))) = True := by simp only [nxs, eq_iff_iff, iff_true]; omega
theorem g0s {i n : Nat} (h : i < n) : (i < nxs (nxs (nxs (nxs (nxs (nxs (nxs (nxs (nxs (nxs (nxs (nxs (nxs (nxs (nxs n))))))))))))))) = True := by simp only [nxs, eq_iff_iff, iff_true]; omega
theorem d8g {n : Nat} : (n = nxs (nxs (nxs (nxs (nxs (nxs (nxs (nxs (nxs (nxs (nxs (nxs (nxs (nxs (nxs n))))))))))))))) = False := by simp only [nxs, eq_iff_iff, iff_false]; omega
theorem d8w {n : Nat} : (nxs (nxs (nxs (nxs (nxs (nxs (nxs (nxs (nxs (nxs (nxs (nxs (nxs (nxs (nxs n)))))))))))))) = n) = False := by simp only [nxs, eq_iff_iff, iff_false]; omega
theorem d9d {i n : Nat} (h : i < n) : (i = nxs (nxs (nxs (nxs (nxs (nxs (nxs (nxs (nxs (nxs (nxs (nxs (nxs (nxs (nxs n))))))))))))))) = False := by simp only [nxs, eq_iff_iff, iff_false]; omega
theorem d9u {i n : Nat} (h : i < n) : (nxs (nxs (nxs (nxs (nxs (nxs (nxs (nxs (nxs (nxs (nxs (nxs (nxs (nxs (nxs n)))))))))))))) = i) = False := by simp only [nxs, eq_iff_iff, iff_false]; omega
theorem g0d {n : Nat} : (n < nxs (nxs (nxs (nxs (nxs (nxs (nxs (nxs (nxs (nxs (nxs (nxs (nxs (nxs (nxs (nxs n)))))))))))))))) = True := by simp only [nxs, eq_iff_iff, iff_true]; omega
theorem g0t {i n : Nat} (h : i < n) : (i < nxs (nxs (nxs (nxs (nxs (nxs (nxs (nxs (nxs (nxs (nxs (nxs (nxs (nxs (nxs (nxs n)))))))))))))))) = True := by simp only [nxs, eq_iff_iff, iff_true]; omega
theorem d8h {n : Nat} : (n = nxs (nxs (nxs (nxs (nxs (nxs (nxs (nxs (nxs (nxs (nxs (nxs (nxs (nxs (nxs (nxs n)))))))))))))))) = False := by simp only [nxs, eq_iff_iff, iff_false]; omega
theorem d8x {n : Nat} : (nxs (nxs (nxs (nxs (nxs (nxs (nxs (nxs (nxs (nxs (nxs (nxs (nxs (nxs (nxs (nxs n))))))))))))))) = n) = False := by simp only [nxs, eq_iff_iff, iff_false]; omega
theorem d9e {i n : Nat} (h : i < n) : (i = nxs (nxs (nxs (nxs (nxs (nxs (nxs (nxs (nxs (nxs (nxs (nxs (nxs (nxs (nxs (nxs n)))))))))))))))) = False := by simp only [nxs, eq_iff_iff, iff_false]; omega
theorem d9v {i n : Nat} (h : i < n) : (nxs (nxs (nxs (nxs (nxs (nxs (nxs (nxs (nxs (nxs (nxs (nxs (nxs (nxs (nxs (nxs n))))))))))))))) = i) = False := by simp only [nxs, eq_iff_iff, iff_false]; omega
theorem d86 {i : Nat} {h : Heap} (hl : i < h.nx) : (i = h.nx) = False := by simp only [eq_iff_iff, iff_false]; omega
theorem d9n {i : Nat} {h : Heap} (hl : i < h.nx) : (h.nx = i) = False := by simp only [eq_iff_iff, iff_false]; omega
attribute [go_sem] nxa nxb d96 g0m d8a d8q d87 d9o g0e g0u d8i d8y d9f d9w g0f g0v d8j d8z d9g d9x g0g g0w d8k d80 d9h d9y g0h g0x d8l d81 d9i d9z g0i g0y d8m d82 d9j d90 g0j g0z d8n d83 d9k d91 g0k g00 d8o d84 d9l d92 g0l g01 d8p d85 d9m d93 d97 g0n d8b d8r d88 d9p d98 g0o d8c d8s d89 d9q d99 g0p d8d d8t d9a d9r g0a g0q d8e d8u d9b d9s g0b g0r d8f d8v d9c d9t g0c g0s d8g d8w d9d d9u g0d g0t d8h d8x d9e d9v d86 d9n
end Go.Nw
