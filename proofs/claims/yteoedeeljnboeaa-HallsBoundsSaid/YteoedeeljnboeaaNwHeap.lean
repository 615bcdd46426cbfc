/- Own objects: rules for what makes, reads, writes and hands them over. -/
import Derived.Test.YteoedeeljnboeaaNwModel
set_option linter.all false
set_option linter.unusedVariables false
set_option linter.unusedSimpArgs false
set_option linter.unusedSectionVars false
namespace Go.Nw
theorem d1k {h : Heap} {o : Ob} {i : Nat} (hl : i < h.nx) : (h.new o).ob i = h.ob i := by
  simp only [Heap.new]; rw [if_neg (by omega)]
theorem d1j {h : Heap} {o : Ob} {i : Nat} (hl : i = h.nx) : (h.new o).ob i = some o := by
  simp only [Heap.new]; rw [if_pos hl]
theorem d2j {h : Heap} {o : Option Ob} {i j : Nat} (hl : ¬ i = j) : (h.upd j o).ob i = h.ob i := by
  simp only [Heap.upd]; rw [if_neg hl]
theorem j8l {h : Heap} {o : Option Ob} {i j : Nat} (hl : i = j) : (h.upd j o).ob i = o := by
  simp only [Heap.upd]; rw [if_pos hl]
theorem d5m {p : Prop} : @b44 True ⟨p⟩ = p := by simp [b44]
theorem b0v {α : Type} {f : α → List AV} {l : List α} {i : Int} {x : α} {sz : Nat} {k : Nat → List (List AV) → List AV → Prop} (hx : get l i = some x) :
    @c55 (some (sz, List.map f l)) i.toNat ⟨k⟩ = k sz (List.map f l) (f x) := by
  show b75 _ _ _ = _
  simp only [d86, List.getElem?_map, b52 hx, Option.map_some, Option.some.injEq]
  apply propext; constructor
  · rintro ⟨_, rfl, hk⟩; exact hk
  · exact fun hk => ⟨_, rfl, hk⟩
theorem j7v {l : List Int} {n : Nat} {v : Int} : (List.map eI l).set n [I v] = List.map eI (l.set n v) := by rw [List.map_set]; rfl
theorem j7u {l : List Bool} {n : Nat} {v : Bool} : (List.map eB l).set n [B v] = List.map eB (l.set n v) := by rw [List.map_set]; rfl
def mks {α : Type} (b : Nat) (n : Int) (z : α) : Option (List α) := if 0 ≤ n ∧ n * b ≤ 2 ^ 47 ∧ n < 2 ^ 63 then some (List.replicate n.toNat z) else none
theorem d1i {α : Type} {b : Nat} {n : Int} {z : α} {l : List α} (h : mks b n z = some l) : 0 ≤ n ∧ n * b ≤ 2 ^ 47 ∧ n < 2 ^ 63 ∧ l = List.replicate n.toNat z := by
  unfold mks at h; split at h
  · rename_i hc; cases h; exact ⟨hc.1, hc.2.1, hc.2.2, rfl⟩
  · cases h
theorem d78 {α : Type} {b : Nat} {n : Int} {z : α} (h0 : 0 ≤ n) (h1 : n * b ≤ 2 ^ 47) (h2 : n < 2 ^ 63) : mks b n z = some (List.replicate n.toNat z) := by
  unfold mks; rw [if_pos ⟨h0, h1, h2⟩]
def ap {α : Type} (b : Nat) (l m : List α) : Option (List α) := if (l.length + m.length) * b ≤ 2 ^ 40 then some (l ++ m) else none
theorem c4u {α : Type} {b : Nat} {l m r : List α} (h : ap b l m = some r) : (l.length + m.length) * b ≤ 2 ^ 40 ∧ r = l ++ m := by
  unfold ap at h; split at h
  · rename_i hc; cases h; exact ⟨hc, rfl⟩
  · cases h
theorem b5c {α : Type} {b : Nat} {l m : List α} (h : (l.length + m.length) * b ≤ 2 ^ 40) : ap b l m = some (l ++ m) := by
  unfold ap; rw [if_pos h]
def c51 (sz : Nat) (zs : List Value) (b : Nat) (l c : AV) (h : Heap) [k : K2] : Prop := ∃ r h', eff (.mksl sz zs b (.t 0) (.t 1)) (evT fun i => if i = 0 then l else c) h = some (r, h') ∧ k.k r h'
def c3d (sz b : Nat) (s x : AV) (h : Heap) [k : K2] : Prop := ∃ r h', eff (.app sz b (.t 0) (.t 1)) (evT fun i => if i = 0 then s else x) h = some (r, h') ∧ k.k r h'
def d0c (sz : Nat) (vs : List AV) (h : Heap) [k : K2] : Prop := (vs.all fun x => b2w x && (cellsOf x).length == sz) = true ∧ k.k (.rs h.nx 0 vs.length) (h.new (sz, vs.map cellsOf))
section
variable {O : Orac} {d : Option Nat} {g : Nat} {b0 : Bool} {r : List XO} {K : Slots → Heap → Prop} {t : Slots} {h : Heap} {k : AV → Heap → Prop}
theorem g8o {sz zs b l c} : b0g O (⟨d, none, .mksl sz zs b l c⟩ :: r) K t h = @iop O (.mksl sz zs b l c) t h ⟨fun v h' => b0g O r K (b0p t d v) h'⟩ := b27 rfl
theorem g9i {sz zs b l c} : b0g O (⟨d, some (g, b0), .mksl sz zs b l c⟩ :: r) K t h = @b23 (t g) b0 ⟨@iop O (.mksl sz zs b l c) (upd t g (B b0)) h ⟨fun v h' => b0g O r K (b0p (upd t g (B b0)) d v) h'⟩⟩ ⟨b0g O r K (b0p (upd t g (B (!b0))) d U) h⟩ ⟨b0g O r K (b0p t d U) h⟩ := b29 rfl
theorem g74 {sz b s x} : b0g O (⟨d, none, .app sz b s x⟩ :: r) K t h = @iop O (.app sz b s x) t h ⟨fun v h' => b0g O r K (b0p t d v) h'⟩ := b27 rfl
theorem g80 {sz b s x} : b0g O (⟨d, some (g, b0), .app sz b s x⟩ :: r) K t h = @b23 (t g) b0 ⟨@iop O (.app sz b s x) (upd t g (B b0)) h ⟨fun v h' => b0g O r K (b0p (upd t g (B b0)) d v) h'⟩⟩ ⟨b0g O r K (b0p (upd t g (B (!b0))) d U) h⟩ ⟨b0g O r K (b0p t d U) h⟩ := b29 rfl
theorem g78 {sz vs} : b0g O (⟨d, none, .bsl sz vs⟩ :: r) K t h = @iop O (.bsl sz vs) t h ⟨fun v h' => b0g O r K (b0p t d v) h'⟩ := b27 rfl
theorem g84 {sz vs} : b0g O (⟨d, some (g, b0), .bsl sz vs⟩ :: r) K t h = @b23 (t g) b0 ⟨@iop O (.bsl sz vs) (upd t g (B b0)) h ⟨fun v h' => b0g O r K (b0p (upd t g (B b0)) d v) h'⟩⟩ ⟨b0g O r K (b0p (upd t g (B (!b0))) d U) h⟩ ⟨b0g O r K (b0p t d U) h⟩ := b29 rfl
theorem j0a {sz zs b l c} : @iop O (.mksl sz zs b l c) t h ⟨k⟩ = @c51 sz zs b (evT t l) (evT t c) h ⟨k⟩ := by
  simp only [iop, op1, c51, eff, evT, if_true, Nat.one_ne_zero, if_false]
theorem g9q {sz b s x} : @iop O (.app sz b s x) t h ⟨k⟩ = @c3d sz b (evT t s) (evT t x) h ⟨k⟩ := by
  simp only [iop, op1, c3d, eff, evT, if_true, Nat.one_ne_zero, if_false]
theorem g9u {sz vs} : @iop O (.bsl sz vs) t h ⟨k⟩ = @d0c sz (vs.map (evT t)) h ⟨k⟩ := by
  simp only [iop, op1, d0c, eff, List.length_map]
  apply propext; constructor
  · rintro ⟨r, h', he, hk⟩
    split at he
    · rename_i hc; cases he; exact ⟨hc, hk⟩
    · cases he
  · rintro ⟨hc, hk⟩
    exact ⟨_, _, by rw [if_pos hc], hk⟩
theorem d6i {sz vs} : @d0c sz vs h ⟨k⟩ = @b44 ((vs.all fun x => b2w x && (cellsOf x).length == sz) = true) ⟨k (.rs h.nx 0 vs.length) (h.new (sz, vs.map cellsOf))⟩ := rfl
theorem b7w {α : Type} {f : α → List AV} {z : α} {sz : Nat} {zs : List Value} {b : Nat} {n : Int} {l : List α} (hz : zs.map .v = f z) (hm : mks b n z = some l)
    (hk : k (.rs h.nx 0 (List.length l)) (h.new (sz, List.map f l))) : @c51 sz zs b (I n) (I n) h ⟨k⟩ := by
  obtain ⟨h0, h1, h2, rfl⟩ := d1i hm
  rw [List.length_replicate, List.map_replicate, ← hz] at hk
  refine ⟨_, _, ?_, hk⟩
  simp only [eff, evT, if_true, Nat.one_ne_zero, if_false]
  rw [if_pos ⟨trivial, h0, h1, h2⟩]
def b6i (h : Heap) (v : AV) (o : Ob) : Heap := (match v with | .rs id _ _ => h.upd id none | _ => h).new o
theorem c4v {a : Option Addr} {b c : Nat} {o : Ob} : b6i h (.v (.slice a b c)) o = h.new o := rfl
theorem c4w {id lo len : Nat} {o : Ob} : b6i h (.rs id lo len) o = (h.upd id none).new o := rfl
def b0l (h : Heap) (v : AV) (sz : Nat) (rows : List (List AV)) : Prop := (v = .v (.slice none 0 0) ∧ rows = []) ∨ ∃ id, v = .rs id 0 rows.length ∧ h.ob id = some (sz, rows) ∧ id < h.nx
def d2r (h : Heap) (v : AV) (sz : Nat) (rows : List (List AV)) : Prop := v = .fs sz rows ∨ ∃ id, v = .rs id 0 rows.length ∧ h.ob id = some (sz, rows)
def b0a (v : AV) (i : Nat) : Prop := match v with | .rs id _ _ => ¬ id = i | _ => True
theorem b55 {α : Type} {f : α → List AV} {sz b : Nat} {s x : AV} {l m r : List α} (hs : b0l h s sz (List.map f l)) (hx : d2r h x sz (List.map f m)) (hd : ∀ i, ¬ b0a s i → b0a x i) (hn : s = .v (.slice none 0 0) → ¬ m = [])
    (ha : ap b l m = some r) (hk : k (.rs h.nx 0 (List.length r)) (b6i h s (sz, List.map f r))) : @c3d sz b s x h ⟨k⟩ := by
  obtain ⟨hb, rfl⟩ := c4u ha
  rw [List.length_append, List.map_append] at hk
  refine ⟨_, _, ?_, hk⟩
  simp only [eff, evT, if_true, Nat.one_ne_zero, if_false]
  rcases hs with ⟨rfl, hl⟩ | ⟨id, rfl, ho, hlt⟩
  · have hl' : l = [] := by simpa using hl
    subst hl'
    have hm : ¬ m.length = 0 := fun e => hn rfl (List.length_eq_zero_iff.1 e)
    rcases hx with rfl | ⟨id2, rfl, ho2⟩
    · simp only [List.length_map, hm, if_false, List.map_nil, List.nil_append, List.length_nil, Nat.zero_add, c4v]
      rw [if_pos ⟨trivial, by simpa using hb⟩]
    · simp only [ho2, Option.bind_some, List.length_map, hm, if_false, List.map_nil, List.nil_append, List.length_nil, Nat.zero_add, c4v]
      rw [if_pos ⟨trivial, by simp, by simpa using hb⟩]
      simp [List.take_of_length_le]
  · rcases hx with rfl | ⟨id2, rfl, ho2⟩
    · simp only [ho, Option.bind_some, List.length_map, c4w]
      rw [if_pos ⟨trivial, trivial, by simp, hb⟩]
      simp [List.take_of_length_le]
    · have hne : id ≠ id2 := fun e => hd id (by simp [b0a]) e.symm
      simp only [ho, ho2, Option.bind_some, List.length_map, c4w]
      rw [if_pos ⟨trivial, trivial, hne, by simp, by simp, hb⟩]
      simp [List.take_of_length_le]
theorem j54 {sz : Nat} : b0l h (.v (.slice none 0 0)) sz [] := .inl ⟨rfl, rfl⟩
theorem b68 {α : Type} {f : α → List AV} {sz : Nat} : b0l h (.v (.slice none 0 0)) sz (List.map f []) := .inl ⟨rfl, rfl⟩
theorem b3v {id n sz : Nat} {rows : List (List AV)} (ho : h.ob id = some (sz, rows)) (hl : n = rows.length) (hn : id < h.nx) : b0l h (.rs id 0 n) sz rows := .inr ⟨id, by rw [hl], ho, hn⟩
theorem b6c {id n sz : Nat} {rows : List (List AV)} (ho : h.ob id = some (sz, rows)) (hl : n = rows.length) : d2r h (.rs id 0 n) sz rows := .inr ⟨id, by rw [hl], ho⟩
theorem b24 {s : AV} {id lo n : Nat} (hs : b0a s id) : ∀ i, ¬ b0a s i → b0a (.rs id lo n) i := fun i hi e => hi (e ▸ hs)
theorem b1j {a : Value} {i : Nat} : b0a (.v a) i := trivial
theorem b1k {id lo n i : Nat} (hl : ¬ id = i) : b0a (.rs id lo n) i := hl
theorem b01 {v : AV} {sz : Nat} {rows : List (List AV)} (hv : b0l h v sz rows) {i : Nat} (hi : h.nx ≤ i) : b0a v i := by
  rcases hv with ⟨rfl, _⟩ | ⟨id, rfl, _, hlt⟩
  · trivial
  · exact fun e => by omega
theorem b98 {es : List (List AV)} {i j : Nat} {c : AV} (h : at2 es i j = some c) : ∃ e, es[i]? = some e ∧ e[j]? = some c := by
  unfold at2 at h
  cases he : es[i]? with
  | none => simp [he] at h
  | some e => exact ⟨e, rfl, by rw [he] at h; exact h⟩
theorem b5f {α : Type} {f : α → List AV} {v : AV} {sz : Nat} {l : List α} (hv : b0l h v sz (List.map f l)) (hf : ∀ a, ∀ c ∈ f a, Frz c) (hl : ∀ a, (f a).length = sz) : Fz h v (.fs sz (List.map f l)) := by
  rcases hv with ⟨rfl, hr⟩ | ⟨id, rfl, ho, _⟩
  · rw [hr]; exact .nil sz
  · refine .rs id 0 _ sz _ _ ho (by simp) rfl (fun d hd => ?_) (fun i j c d h1 h2 => ?_)
    · obtain ⟨a, _, rfl⟩ := List.mem_map.1 hd; exact hl a
    · rw [Nat.zero_add] at h1
      rw [h1] at h2; cases h2
      obtain ⟨e, he, hc⟩ := b98 h1
      obtain ⟨a, _, rfl⟩ := List.mem_map.1 (List.mem_of_getElem? he)
      exact .refl _ (hf a _ (List.mem_of_getElem? hc))
theorem b6x {α : Type} {f : α → List AV} {id n sz : Nat} {l : List α} (ho : h.ob id = some (sz, List.map f l)) (hn : n = List.length l) (hf : ∀ a, ∀ c ∈ f a, Frz c) (hl : ∀ a, (f a).length = sz) : Fz h (.rs id 0 n) (.fs sz (List.map f l)) := by
  subst hn
  refine .rs id 0 _ sz _ _ ho (by simp) (by simp) (fun d hd => ?_) (fun i j c d h1 h2 => ?_)
  · obtain ⟨a, _, rfl⟩ := List.mem_map.1 hd; exact hl a
  · rw [Nat.zero_add] at h1
    rw [h1] at h2; cases h2
    obtain ⟨e, he, hc⟩ := b98 h1
    obtain ⟨a, _, rfl⟩ := List.mem_map.1 (List.mem_of_getElem? he)
    exact .refl _ (hf a _ (List.mem_of_getElem? hc))
theorem b50 {xs ys : List AV} (hz : FzL h xs ys) : xs.length = ys.length ∧ ∀ (i : Nat) c d, xs[i]? = some c → ys[i]? = some d → Fz h c d := by
  induction hz with
  | nil => exact ⟨rfl, fun i c d hc => by simp at hc⟩
  | cons a _ ih =>
    refine ⟨by simp [ih.1], fun i c d hc hd => ?_⟩
    cases i with
    | zero => simp at hc hd; subst hc; subst hd; exact a
    | succ i => simp at hc hd; exact ih.2 i c d hc hd
theorem g52 {xs ys : List AV} (hz : FzL h xs ys) : Fz h (.tup xs) (.tup ys) := .tup _ _ (b50 hz).1 (b50 hz).2
theorem c80 {xs ys : List AV} (hz : FzL h xs ys) : Fz h (.agg xs) (.agg ys) := .agg _ _ (b50 hz).1 (b50 hz).2
theorem d30 {id sz : Nat} {xs ys : List AV} (ho : h.ob id = some (sz, [xs])) (hz : FzL h xs ys) : Fz h (.rp id 0 0) (.fp ys 0) := .rp id 0 0 sz _ _ _ ho rfl (b50 hz).1 (b50 hz).2
theorem c8r {n : Nat} {v r : AV} (ht : t n = v) (hz : Fz h v r) : b5s [.t n] r [] ⟨t, h⟩ := by
  subst ht; exact .inl ⟨rfl, [t n], rfl, hz⟩
theorem c2r {n m : Nat} {v r u s : AV} (ht : t n = v) (hu : t m = u) (hz : Fz h v r) (hz' : Fz h u s) : b5s [.t n, .t m] (.tup [r, s]) [] ⟨t, h⟩ := by
  subst ht; subst hu; exact .inl ⟨rfl, [t n, t m], rfl, g52 (.cons hz (.cons hz' .nil))⟩
theorem d3p {n sz id m : Nat} {cs : List AV} {r : AV} (ht : t n = .rp id 0 0) (ho : h.ob id = some (m, [cs])) (hl : cs.length = sz) (hz : Fz h (.agg cs) r) : b5s [.cell n true sz] r [] ⟨t, h⟩ := by
  refine .inl ⟨rfl, [.agg cs], ?_, hz⟩
  subst hl
  simp [b4t, eff, St.ev, ht, ho]
theorem c47 {b : XCode} {Q : XExit → Slots → Heap → Prop} {t' : Slots} {h' : Heap} (hg : c2a ⟨t, h⟩ ⟨t', h'⟩) (hw : cw O b Q t' h') : cw O (.seq .ghost b) Q t h := ⟨⟨t', h'⟩, hg, hw⟩
def b8r (h : Heap) (v : AV) : Heap := match v with | .rs id _ _ => h.upd id none | .rp id _ _ => h.upd id none | _ => h
theorem g20 {id : Nat} : h.upd id none = h.but (· == id) := by
  simp only [Heap.upd, Heap.but, Heap.mk.injEq, and_true]
  funext j; by_cases e : j = id <;> simp [e]
theorem g2x : h = h.but fun _ => false := by simp [Heap.but]
theorem c82 {F : Nat → Bool} {s : Nat} {y : AV} (hc : c19 (h.only F) (t s) y) : c2a ⟨t, h⟩ ⟨upd t s y, h.but F⟩ := by
  refine ⟨F, rfl, rfl, fun id sz es' ho => ?_, fun j => ?_⟩
  · have ho' : (if F id then none else h.ob id) = some (sz, es') := ho
    split at ho'
    · cases ho'
    · rename_i hf
      exact ⟨by simpa using hf, es', ho', .inl rfl, fun i j d hd => ⟨d, hd, .inl rfl⟩⟩
  · show c19 _ (t j) (upd t s y j)
    by_cases e : j = s
    · subst e; rw [d90]; exact hc
    · rw [d9z e]; exact .inl rfl
theorem g42 {b : XCode} {Q : XExit → Slots → Heap → Prop} (hw : cw O b Q t h) : cw O (.seq .ghost b) Q t h :=
  c47 ⟨fun _ => false, rfl, rfl, fun id sz es' ho => ⟨rfl, es', ho, .inl rfl, fun i j d hd => ⟨d, hd, .inl rfl⟩⟩, fun _ => .inl rfl⟩ hw
theorem c48 {α : Type} {f : α → List AV} {b : XCode} {Q : XExit → Slots → Heap → Prop} {s : Nat} {v : AV} {sz : Nat} {l : List α} (hs : t s = v) (hv : b0l h v sz (List.map f l)) (hf : ∀ a, ∀ c ∈ f a, Frz c) (hl : ∀ a, (f a).length = sz)
    (hw : cw O b Q (upd t s (.fs sz (List.map f l))) (b8r h v)) : cw O (.seq .ghost b) Q t h := by
  subst hs
  have hfr : Frz (.fs sz (List.map f l)) := .fs _ _ fun e he c hc => by obtain ⟨a, _, rfl⟩ := List.mem_map.1 he; exact hf a c hc
  rcases hv with ⟨hv, hr⟩ | ⟨id, hv, ho, hlt⟩
  · refine c47 (h' := b8r h (t s)) ?_ hw
    rw [hv]
    have := c82 (t := t) (h := h) (F := fun _ => false) (s := s) (y := .fs sz (List.map f l)) (.inr ⟨by rw [hv, hr]; exact .nil sz, hfr⟩)
    rw [← g2x] at this
    exact this
  · refine c47 (h' := b8r h (t s)) ?_ hw
    rw [hv]
    have := c82 (t := t) (h := h) (F := (· == id)) (s := s) (y := .fs sz (List.map f l)) (.inr ⟨by rw [hv]; exact b6x (by simp [Heap.only, ho]) (by simp) hf hl, hfr⟩)
    rw [← g20] at this
    exact this
theorem c5d {a : Value} : b8r h (.v a) = h := rfl
theorem c5e {id lo n : Nat} : b8r h (.rs id lo n) = h.upd id none := rfl
theorem g71 {α : Type} {f : α → List AV} {sz b id2 : Nat} {s : AV} {l : List α} {r : List α} {a : α} {raw : List AV} (hs : b0l h s sz (List.map f l)) (hx : h.ob id2 = some (sz, [raw])) (hd : b0a s id2)
    (ha : ap b l [a] = some r) (hk : k (.rs h.nx 0 (List.length r)) (b6i h s (sz, List.map f l ++ [raw]))) : @c3d sz b s (.rs id2 0 1) h ⟨k⟩ := by
  obtain ⟨hb, rfl⟩ := c4u ha
  rw [List.length_append] at hk
  refine ⟨_, _, ?_, hk⟩
  simp only [eff, evT, if_true, Nat.one_ne_zero, if_false]
  have hb' : (l.length + 1) * b ≤ 2 ^ 40 := by simpa using hb
  rcases hs with ⟨rfl, hl⟩ | ⟨id, rfl, ho, hlt⟩
  · have hl' : l = [] := by simpa using hl
    subst hl'
    simp only [hx, Option.bind_some, List.map_nil, List.nil_append, List.length_nil, List.length_cons, Nat.zero_add, c4v, Nat.one_ne_zero, if_false]
    rw [if_pos ⟨trivial, by simp, by simpa using hb'⟩]
    simp
  · have hne : id ≠ id2 := hd
    simp only [ho, hx, Option.bind_some, List.length_map, c4w]
    rw [if_pos ⟨trivial, trivial, hne, by simp, by simp, hb'⟩]
    simp [List.take_of_length_le]
end
theorem g11 {h : Heap} {v : AV} {o : Ob} : (b6i h v o).nx = nxs h.nx := by cases v <;> rfl
theorem g12 {h : Heap} {v : AV} {o : Ob} {i : Nat} (hi : b0a v i) (hl : i < h.nx) : (b6i h v o).ob i = h.ob i := by
  unfold b6i
  split
  · rw [d1k (by exact hl), d2j]; exact fun e => hi e.symm
  · exact d1k hl
theorem g10 {h : Heap} {v : AV} {o : Ob} {i : Nat} (hl : i = h.nx) : (b6i h v o).ob i = some o := by
  unfold b6i
  split
  · exact d1j hl
  · exact d1j hl
theorem g5w {h : Heap} {v : AV} : (b8r h v).nx = h.nx := by cases v <;> rfl
attribute [go_sem ↓] g8o g9i g74 g80 g78 g84 j0a g9q g9u d6i d5m
attribute [go_sem] d6i d5m c4v c4w g11 c5d c5e g5w Nat.zero_add j7v j7u
end Go.Nw
namespace Go.Nw
theorem b3x {a : Value} {w : AV} : ∀ j, ¬ b0a (.v a) j → b0a w j := fun _ hj => (hj trivial).elim
theorem b3y {v : AV} {a : Value} : ∀ j, ¬ b0a v j → b0a (.v a) j := fun _ _ => trivial
theorem b3z {id lo n : Nat} {w : AV} (hw : b0a w id) : ∀ j, ¬ b0a (.rs id lo n) j → b0a w j := fun j hj => by
  have e : id = j := by simpa [b0a] using hj
  exact e ▸ hw
theorem b2j {O l b Q t h} (post : Slots → Heap → Prop) (h1 : ∀ K : Slots → Heap → Prop, (∀ t h, post t h → K t h) → b0g O l K t h) (h2 : ∀ t h, post t h → cw O b Q t h) : cw O (.seq (.reg l) b) Q t h :=
  g45 post (h1 post fun _ _ h => h) h2
theorem b8l {O l Q t h} (post : Slots → Heap → Prop) (h1 : ∀ K : Slots → Heap → Prop, (∀ t h, post t h → K t h) → b0g O l K t h) (h2 : ∀ t h, post t h → Q .normal t h) : cw O (.reg l) Q t h :=
  g46 post (h1 post fun _ _ h => h) h2
theorem b6b {α : Type} {f : α → List AV} {h : Heap} {v : AV} {sz : Nat} {l : List α} {i : Int} {x : α} (hv : b0l h v sz (List.map f l)) (hx : get l i = some x) : ∃ id, v = .rs id 0 (List.length l) ∧ h.ob id = some (sz, List.map f l) ∧ id < h.nx := by
  rcases hv with ⟨_, hr⟩ | ⟨id, h1, h2, h3⟩
  · have : l = [] := by simpa using hr
    subst this; have := b09 hx; have := b06 hx; simp at *; omega
  · exact ⟨id, by simpa using h1, h2, h3⟩
theorem b59 (x : Int) : (eI x).length = 1 := rfl
end Go.Nw
namespace Go.Nw
theorem b1g {h h' : Heap} {v : AV} {sz : Nat} {rows : List (List AV)} (hv : b0l h v sz rows) (hk : ∀ j, ¬ b0a v j → j < h.nx → h'.ob j = h.ob j) (hn : h.nx ≤ h'.nx) : b0l h' v sz rows := by
  rcases hv with ⟨rfl, hr⟩ | ⟨id, rfl, ho, hlt⟩
  · exact .inl ⟨rfl, hr⟩
  · exact .inr ⟨id, rfl, by rw [hk id (by simp [b0a]) hlt]; exact ho, by omega⟩
end Go.Nw
namespace Go.Nw
theorem b0c {a b : Nat} (h : ¬ a = b) : ¬ b = a := fun e => h e.symm
theorem b1b {α : Type} {c : Bool} {a b : α} (h : c = true) : (if c then a else b) = a := if_pos h
theorem b1a {α : Type} {c : Bool} {a b : α} (h : c = false) : (if c then a else b) = b := if_neg (by simp [h])
attribute [go_sem] d1k d1j d2j j8l g12 g10 List.length_map Bool.true_or Bool.or_true Bool.false_or Bool.or_false Bool.true_and Bool.and_true Bool.false_and Bool.and_false Bool.false_eq_true List.length_set
end Go.Nw
namespace Go.Nw
theorem b1h {v : AV} {i j : Nat} (hj : ¬ b0a v j) (hi : b0a v i) : ¬ j = i := fun e => hj (e ▸ hi)
theorem b2z {v u : AV} (h : ∀ j, ¬ b0a v j → b0a u j) : ∀ j, ¬ b0a u j → b0a v j := fun j hj => Classical.byContradiction fun hn => hj (h j hn)
end Go.Nw
namespace Go.Nw
theorem g50 {h : Heap} {f : String} {as bs cs ds : List AV} (ha : FzL h as bs) (hc : FzL h cs ds) : Fz h (.fn f as cs) (.fn f bs ds) := .fn f _ _ _ _ (b50 ha).1 (b50 ha).2 (b50 hc).1 (b50 hc).2
end Go.Nw
namespace Go.Nw
def mn (a b : Int) : Int := if b < a then b else a
def mx (a b : Int) : Int := if b > a then b else a
theorem c1b (a b : Int) : mn a b = min a b := by unfold mn; split <;> omega
theorem b9e (a b : Int) : mx a b = max a b := by unfold mx; split <;> omega
def c05 (xs : List AV) [k : K1 AV] : Prop := ∃ r, b6l b9d xs = some r ∧ k.k r
def c04 (xs : List AV) [k : K1 AV] : Prop := ∃ r, b6l b9c xs = some r ∧ k.k r
section
variable {O : Orac} {d : Option Nat} {g : Nat} {b0 : Bool} {r : List XO} {K : Slots → Heap → Prop} {t : Slots} {h : Heap} {k : AV → Heap → Prop} {k1 : AV → Prop}
theorem g8m {xs} : b0g O (⟨d, none, .min xs⟩ :: r) K t h = @iop O (.min xs) t h ⟨fun v h' => b0g O r K (b0p t d v) h'⟩ := b27 rfl
theorem g9g {xs} : b0g O (⟨d, some (g, b0), .min xs⟩ :: r) K t h = @b23 (t g) b0 ⟨@iop O (.min xs) (upd t g (B b0)) h ⟨fun v h' => b0g O r K (b0p (upd t g (B b0)) d v) h'⟩⟩ ⟨b0g O r K (b0p (upd t g (B (!b0))) d U) h⟩ ⟨b0g O r K (b0p t d U) h⟩ := b29 rfl
theorem g8l {xs} : b0g O (⟨d, none, .max xs⟩ :: r) K t h = @iop O (.max xs) t h ⟨fun v h' => b0g O r K (b0p t d v) h'⟩ := b27 rfl
theorem g9f {xs} : b0g O (⟨d, some (g, b0), .max xs⟩ :: r) K t h = @b23 (t g) b0 ⟨@iop O (.max xs) (upd t g (B b0)) h ⟨fun v h' => b0g O r K (b0p (upd t g (B b0)) d v) h'⟩⟩ ⟨b0g O r K (b0p (upd t g (B (!b0))) d U) h⟩ ⟨b0g O r K (b0p t d U) h⟩ := b29 rfl
theorem g98 {xs} : @iop O (.min xs) t h ⟨k⟩ = @c05 (xs.map (evT t)) ⟨fun v => k v h⟩ := by
  simp only [iop, op1, c05, eff, Option.map_eq_some_iff]
  apply propext; constructor
  · rintro ⟨r, h', ⟨x, h1, h2⟩, hk⟩; cases h2; exact ⟨_, h1, hk⟩
  · rintro ⟨r, h1, hk⟩; exact ⟨r, h, ⟨r, h1, rfl⟩, hk⟩
theorem g97 {xs} : @iop O (.max xs) t h ⟨k⟩ = @c04 (xs.map (evT t)) ⟨fun v => k v h⟩ := by
  simp only [iop, op1, c04, eff, Option.map_eq_some_iff]
  apply propext; constructor
  · rintro ⟨r, h', ⟨x, h1, h2⟩, hk⟩; cases h2; exact ⟨_, h1, hk⟩
  · rintro ⟨r, h1, hk⟩; exact ⟨r, h, ⟨r, h1, rfl⟩, hk⟩
theorem d7b {a b : Int} {kd kd'} : @c05 [.v (.int kd a), .v (.int kd' b)] ⟨k1⟩ = k1 (.v (.int kd (mn a b))) := by
  simp [c05, b6l, b9d, mn]
theorem d69 {a b : Int} {kd kd'} : @c04 [.v (.int kd a), .v (.int kd' b)] ⟨k1⟩ = k1 (.v (.int kd (mx a b))) := by
  simp [c04, b6l, b9c, mx]
theorem d7c {a b c : Int} {kd kd' kd''} : @c05 [.v (.int kd a), .v (.int kd' b), .v (.int kd'' c)] ⟨k1⟩ = k1 (.v (.int kd (mn (mn a b) c))) := by
  simp [c05, b6l, b9d, mn]
  exact Iff.rfl
theorem d7a {a b c : Int} {kd kd' kd''} : @c04 [.v (.int kd a), .v (.int kd' b), .v (.int kd'' c)] ⟨k1⟩ = k1 (.v (.int kd (mx (mx a b) c))) := by
  simp [c04, b6l, b9c, mx]
theorem g8f {agg n o x} : b0g O (⟨d, none, .fld agg n o x⟩ :: r) K t h = @iop O (.fld agg n o x) t h ⟨fun v h' => b0g O r K (b0p t d v) h'⟩ := b27 rfl
theorem g9a {agg n o x} : b0g O (⟨d, some (g, b0), .fld agg n o x⟩ :: r) K t h = @b23 (t g) b0 ⟨@iop O (.fld agg n o x) (upd t g (B b0)) h ⟨fun v h' => b0g O r K (b0p (upd t g (B b0)) d v) h'⟩⟩ ⟨b0g O r K (b0p (upd t g (B (!b0))) d U) h⟩ ⟨b0g O r K (b0p t d U) h⟩ := b29 rfl
def d0f (agg : Bool) (n o : Nat) (x : AV) [k : K1 AV] : Prop := match x with | .agg cs => b5x agg n cs o k.k | _ => False
theorem g91 {agg n o x} : @iop O (.fld agg n o x) t h ⟨k⟩ = @d0f agg n o (evT t x) ⟨fun v => k v h⟩ := by
  simp only [iop, op1, d0f, eff]
  generalize evT t x = y
  cases y with
  | agg cs =>
    simp only [b5x, b5o]
    cases agg with
    | true =>
      simp only [if_true]
      apply propext; constructor
      · rintro ⟨r, h', he, hk⟩; split at he
        · rename_i ho; cases he; exact ⟨ho, hk⟩
        · cases he
      · rintro ⟨h1, h2⟩; exact ⟨_, _, by rw [if_pos h1], h2⟩
    | false =>
      simp only [Bool.false_eq_true, if_false, Option.map_eq_some_iff]
      apply propext; constructor
      · rintro ⟨r, h', ⟨x, h1, h2⟩, hk⟩; cases h2; exact ⟨_, h1, hk⟩
      · rintro ⟨v, h1, h2⟩; exact ⟨v, h, ⟨v, h1, rfl⟩, h2⟩
  | _ => simp
theorem d6v {agg n o cs} : @d0f agg n o (.agg cs) ⟨k1⟩ = @c3f agg n cs o ⟨k1⟩ := rfl
end
def b78 (v : AV) (j : Nat) : Bool := match v with | .rs id _ _ => id == j | .rp id _ _ => id == j | _ => false
theorem g2z {h : Heap} {F : Nat → Bool} {j : Nat} (hj : F j = false) : (h.but F).ob j = h.ob j := by simp [Heap.but, hj]
theorem g2y {h : Heap} {F : Nat → Bool} : (h.but F).nx = h.nx := by simp [Heap.but]
theorem c3t {h : Heap} {F : Nat → Bool} {j : Nat} (hj : F j = true) : (h.only F).ob j = h.ob j := by simp [Heap.only, hj]
theorem d8r {h : Heap} {F : Nat → Bool} {v : AV} {sz : Nat} {rows : List (List AV)} (hv : b0l h v sz rows) (hF : ∀ j, ¬ b0a v j → F j = true) : b0l (h.only F) v sz rows := by
  rcases hv with ⟨rfl, hr⟩ | ⟨id, rfl, ho, hlt⟩
  · exact .inl ⟨rfl, hr⟩
  · exact .inr ⟨id, rfl, by rw [c3t (hF id (by simp [b0a]))]; exact ho, hlt⟩
theorem c8q {O : Orac} {b : XCode} {Q : XExit → Slots → Heap → Prop} {t : Slots} {h : Heap} {s : Nat} {v y : AV} (F : Nat → Bool) (hs : t s = v) (hz : Fz (h.only F) v y) (hf : Frz y)
    (hw : cw O b Q (upd t s y) (h.but F)) : cw O (.seq .ghost b) Q t h := by
  subst hs
  exact c47 (c82 (.inr ⟨hz, hf⟩)) hw
theorem g43 {O : Orac} {Q : XExit → Slots → Heap → Prop} {t : Slots} {h : Heap} (hw : cw O (.seq .ghost .skip) Q t h) : cw O .ghost Q t h := hw
inductive FzR (h : Heap) : List (List AV) → List (List AV) → Prop
  | nil : FzR h [] []
  | cons {x y : List AV} {xs ys : List (List AV)} (a : FzL h x y) (b : FzR h xs ys) : FzR h (x :: xs) (y :: ys)
theorem d31 {h : Heap} {xs ys : List (List AV)} (hz : FzR h xs ys) : xs.length = ys.length ∧ ∀ (i j : Nat) c d, at2 xs i j = some c → at2 ys i j = some d → Fz h c d := by
  induction hz with
  | nil => exact ⟨rfl, fun i j c d hc => by simp [at2] at hc⟩
  | cons a _ ih =>
    refine ⟨by simp [ih.1], fun i j c d hc hd => ?_⟩
    cases i with
    | zero => simp [at2] at hc hd; exact (b50 a).2 j c d hc hd
    | succ i => exact ih.2 i j c d (by simpa [at2] using hc) (by simpa [at2] using hd)
theorem g51 {h : Heap} {id n sz : Nat} {rows rows' : List (List AV)} (ho : h.ob id = some (sz, rows)) (hn : n = rows.length) (hz : FzR h rows rows') (hl : ∀ d ∈ rows', d.length = sz) : Fz h (.rs id 0 n) (.fs sz rows') := by
  subst hn
  refine .rs id 0 _ sz _ _ ho (by simp) (d31 hz).1.symm hl (fun i j c d h1 h2 => ?_)
  rw [Nat.zero_add] at h1
  exact (d31 hz).2 i j c d h1 h2
attribute [go_sem ↓] g8m g9g g8l g9f g98 g97 g8f g9a g91 d7b d69 d7c d7a d6v
attribute [go_sem] d7b d69 d7c d7a d6v g2y g2z
end Go.Nw
namespace Go.Nw
theorem c7g {v : AV} {j : Nat} (hj : ¬ b0a v j) : b78 v j = true := by
  unfold b0a at hj; unfold b78
  split at hj
  · simpa using hj
  · simp at hj
end Go.Nw
namespace Go.Nw
def sub {α : Type} (l : List α) (a b : Int) : Option (List α) := if 0 ≤ a ∧ a ≤ b ∧ b ≤ l.length then some ((l.take b.toNat).drop a.toNat) else none
theorem j77 {α : Type} {l r : List α} {a b : Int} (h : sub l a b = some r) : 0 ≤ a ∧ a ≤ b ∧ b ≤ l.length ∧ r = (l.take b.toNat).drop a.toNat := by
  unfold sub at h; split at h
  · rename_i hc; cases h; exact ⟨hc.1, hc.2.1, hc.2.2, rfl⟩
  · cases h
theorem j78 {α : Type} {l : List α} {a b : Int} (h0 : 0 ≤ a) (h1 : a ≤ b) (h2 : b ≤ l.length) : sub l a b = some ((l.take b.toNat).drop a.toNat) := by
  unfold sub; rw [if_pos ⟨h0, h1, h2⟩]
def d7o (n : Nat) (x : AV) (lo hi : Option AV) (h : Heap) [k : K2] : Prop := ∃ (r' : AV) (h' : Heap), ((b3f x).bind fun len =>
    (b5w 0 lo).bind fun l =>
    (b54 len hi).bind fun r =>
    if l ≤ r then
      match x with
      | .fs sz es => if sz = n then some (.fs sz ((es.take r).drop l), h) else none
      | .rs id lo' _ => (h.ob id).bind fun o => if (l = 0 ∨ l < r) ∧ o.1 = n then some (.rs id (lo' + l) (r - l), h) else none
      | _ => none
    else none) = some (r', h') ∧ k.k r' h'
section
variable {O : Orac} {d : Option Nat} {g : Nat} {b0 : Bool} {r : List XO} {K : Slots → Heap → Prop} {t : Slots} {h : Heap} {k : AV → Heap → Prop}
theorem g8s {n x lo hi} : b0g O (⟨d, none, .slc n x lo hi⟩ :: r) K t h = @iop O (.slc n x lo hi) t h ⟨fun v h' => b0g O r K (b0p t d v) h'⟩ := b27 rfl
theorem g9m {n x lo hi} : b0g O (⟨d, some (g, b0), .slc n x lo hi⟩ :: r) K t h = @b23 (t g) b0 ⟨@iop O (.slc n x lo hi) (upd t g (B b0)) h ⟨fun v h' => b0g O r K (b0p (upd t g (B b0)) d v) h'⟩⟩ ⟨b0g O r K (b0p (upd t g (B (!b0))) d U) h⟩ ⟨b0g O r K (b0p t d U) h⟩ := b29 rfl
theorem j0e {n x lo hi} : @iop O (.slc n x lo hi) t h ⟨k⟩ = @d7o n (evT t x) (lo.map (evT t)) (hi.map (evT t)) h ⟨k⟩ := rfl
theorem j0i {α : Type} {f : α → List AV} {n : Nat} {l m : List α} {lo hi : Option Int} (hs : sub l (lo.getD 0) (hi.getD l.length) = some m) (hk : k (.fs n (List.map f m)) h) : @d7o n (.fs n (List.map f l)) (lo.map fun z => I z) (hi.map fun z => I z) h ⟨k⟩ := by
  obtain ⟨h0, h1, h2, rfl⟩ := j77 hs
  refine ⟨_, _, ?_, hk⟩
  have hb : b5w 0 (lo.map fun z => I z) = some (lo.getD 0).toNat := by
    cases lo with
    | none => rfl
    | some y => have h0' : 0 ≤ y := h0; show (if 0 ≤ y then some y.toNat else none) = some y.toNat; rw [if_pos h0']
  have hh : b54 (List.map f l).length (hi.map fun z => I z) = some (hi.getD l.length).toNat := by
    rw [List.length_map]
    cases hi with
    | none => show some l.length = some (Int.toNat l.length); simp
    | some z =>
      have h1' : 0 ≤ z := by have := h0; have := h1; simp only [Option.getD_some] at *; omega
      have h2' : z ≤ l.length := h2
      show (if 0 ≤ z ∧ z.toNat ≤ l.length then some z.toNat else none) = some z.toNat
      rw [if_pos ⟨h1', by omega⟩]
  simp only [b3f, Option.bind_some, hb, hh]
  rw [if_pos (by omega), if_pos trivial, List.map_drop, List.map_take]
end
attribute [go_sem ↓] g8s g9m j0e
attribute [go_sem] Option.map_none
end Go.Nw
namespace Go.Nw
theorem b2y {h : Heap} {v : AV} {sz : Nat} {rows : List (List AV)} {j : Nat} (hv : b0l h v sz rows) (hj : b0a v j) : b78 v j = false := by
  rcases hv with ⟨rfl, _⟩ | ⟨id, rfl, _, _⟩
  · rfl
  · simpa [b78, b0a] using hj
end Go.Nw
namespace Go.Nw
def d20 (k : IntKind) (a b : Int) : Int := k.wrap (BitVec.ofInt k.bits a &&& BitVec.ofInt k.bits b).toNat
def d24 (k : IntKind) (a b : Int) : Int := k.wrap (BitVec.ofInt k.bits a ||| BitVec.ofInt k.bits b).toNat
def d26 (k : IntKind) (a b : Int) : Int := k.wrap (BitVec.ofInt k.bits a ^^^ BitVec.ofInt k.bits b).toNat
def d21 (k : IntKind) (a b : Int) : Int := k.wrap (BitVec.ofInt k.bits a &&& ~~~(BitVec.ofInt k.bits b)).toNat
def d23 (k : IntKind) (a : Int) : Int := k.wrap (BitVec.ofInt k.bits (if k.signed then -1 else k.max) ^^^ BitVec.ofInt k.bits a).toNat
def j7x (k : IntKind) (a b : Int) : Int := k.wrap (a * 2 ^ (Nat.min b.toNat k.bits))
def j7y (k : IntKind) (a b : Int) : Int := a.fdiv (2 ^ (Nat.min b.toNat k.bits))
def shl (k : IntKind) (a b : Int) : Option Int := if b < 0 then none else some (j7x k a b)
def shr (k : IntKind) (a b : Int) : Option Int := if b < 0 then none else some (j7y k a b)
def quo (k : IntKind) (a b : Int) : Option Int := if b = 0 then none else some (k.wrap (a.tdiv b))
def rem (a b : Int) : Option Int := if b = 0 then none else some (a.tmod b)
section
variable {k : AV → Prop} {e : EqK} {kd kd' : IntKind} {a b : Int}
theorem d5o : @b3e .and e (.v (.int kd a)) (.v (.int kd b)) ⟨k⟩ = k (.v (.int kd (d20 kd a b))) := b5d (by simp [b4j, b4e, d20])
theorem d57 : @b3e .or e (.v (.int kd a)) (.v (.int kd b)) ⟨k⟩ = k (.v (.int kd (d24 kd a b))) := b5d (by simp [b4j, b4e, d24])
theorem d59 : @b3e .xor e (.v (.int kd a)) (.v (.int kd b)) ⟨k⟩ = k (.v (.int kd (d26 kd a b))) := b5d (by simp [b4j, b4e, d26])
theorem d5r : @b3e .andNot e (.v (.int kd a)) (.v (.int kd b)) ⟨k⟩ = k (.v (.int kd (d21 kd a b))) := b5d (by simp [b4j, b4e, d21])
theorem d7t : @iun .xor (.v (.int kd a)) ⟨k⟩ = k (.v (.int kd (d23 kd a))) := by
  show unK _ _ _ = _
  simp [unK, b9v, d23]
end
def d0d (kd : IntKind) (x : AV) [k : K1 AV] : Prop := match x with | .v (.int _ n) => k.k (.v (.int kd (kd.wrap n))) | _ => False
section
variable {O : Orac} {d : Option Nat} {g : Nat} {b0 : Bool} {r : List XO} {K : Slots → Heap → Prop} {t : Slots} {h : Heap} {k : AV → Heap → Prop} {k1 : AV → Prop}
theorem g8d {kd x} : b0g O (⟨d, none, .cvtI kd x⟩ :: r) K t h = @iop O (.cvtI kd x) t h ⟨fun v h' => b0g O r K (b0p t d v) h'⟩ := b27 rfl
theorem g88 {kd x} : b0g O (⟨d, some (g, b0), .cvtI kd x⟩ :: r) K t h = @b23 (t g) b0 ⟨@iop O (.cvtI kd x) (upd t g (B b0)) h ⟨fun v h' => b0g O r K (b0p (upd t g (B b0)) d v) h'⟩⟩ ⟨b0g O r K (b0p (upd t g (B (!b0))) d U) h⟩ ⟨b0g O r K (b0p t d U) h⟩ := b29 rfl
theorem g9z {kd x} : @iop O (.cvtI kd x) t h ⟨k⟩ = @d0d kd (evT t x) ⟨fun v => k v h⟩ := by
  simp only [iop, op1, d0d, eff]
  generalize evT t x = y
  cases y with
  | v z =>
    cases z with
    | int k' n => exact ex1
    | _ => exact ex0
  | _ => exact ex0
theorem d6q {kd kd' : IntKind} {n : Int} : @d0d kd (.v (.int kd' n)) ⟨k1⟩ = k1 (.v (.int kd (kd.wrap n))) := rfl
end
attribute [go_sem ↓] g8d g88 g9z d6q d5o d57 d59 d5r d7t
attribute [go_sem] d6q d5o d57 d59 d5r d7t
end Go.Nw
namespace Go.Nw
theorem d5t {k : AV → Prop} {a b c d : Int} : @b3e .eql (.flat [.i, .i]) (.agg [I a, I b]) (.agg [I c, I d]) ⟨k⟩ = k (B (decide (a = c) && decide (b = d))) := by
  show b2u _ _ _ _ _ = _
  by_cases h1 : a = c <;> by_cases h2 : b = d <;> simp [b2u, b4o, b3d, b5z, h1, h2]
theorem d51 {k : AV → Prop} {a b c d : Int} : @b3e .neq (.flat [.i, .i]) (.agg [I a, I b]) (.agg [I c, I d]) ⟨k⟩ = k (B (!(decide (a = c) && decide (b = d)))) := by
  show b2u _ _ _ _ _ = _
  by_cases h1 : a = c <;> by_cases h2 : b = d <;> simp [b2u, b4o, b3d, b5z, h1, h2]
theorem d5u {k : AV → Prop} {a b c d x y : Int} : @b3e .eql (.flat [.i, .i, .i]) (.agg [I a, I b, I x]) (.agg [I c, I d, I y]) ⟨k⟩ = k (B (decide (a = c) && decide (b = d) && decide (x = y))) := by
  show b2u _ _ _ _ _ = _
  by_cases h1 : a = c <;> by_cases h2 : b = d <;> by_cases h3 : x = y <;> simp [b2u, b4o, b3d, b5z, h1, h2, h3]
theorem d52 {k : AV → Prop} {a b c d x y : Int} : @b3e .neq (.flat [.i, .i, .i]) (.agg [I a, I b, I x]) (.agg [I c, I d, I y]) ⟨k⟩ = k (B (!(decide (a = c) && decide (b = d) && decide (x = y)))) := by
  show b2u _ _ _ _ _ = _
  by_cases h1 : a = c <;> by_cases h2 : b = d <;> by_cases h3 : x = y <;> simp [b2u, b4o, b3d, b5z, h1, h2, h3]
theorem d53 {k : AV → Prop} : @b3e .eql .slice (.v (.slice none 0 0)) (.v (.slice none 0 0)) ⟨k⟩ = k (B true) := by
  show b2u _ _ _ _ _ = _
  simp [b2u, b4o, b3d, c06]
theorem d55 {k : AV → Prop} : @b3e .neq .slice (.v (.slice none 0 0)) (.v (.slice none 0 0)) ⟨k⟩ = k (B false) := by
  show b2u _ _ _ _ _ = _
  simp [b2u, b4o, b3d, c06]
theorem d54 {k : AV → Prop} {a b c : Nat} : @b3e .eql .slice (.rs a b c) (.v (.slice none 0 0)) ⟨k⟩ = k (B false) := by
  show b2u _ _ _ _ _ = _
  simp [b2u, b4o, b3d, c06]
theorem d56 {k : AV → Prop} {a b c : Nat} : @b3e .neq .slice (.rs a b c) (.v (.slice none 0 0)) ⟨k⟩ = k (B true) := by
  show b2u _ _ _ _ _ = _
  simp [b2u, b4o, b3d, c06]
attribute [go_sem ↓] d5t d51 d5u d52 d53 d55 d54 d56
attribute [go_sem] d5t d51 d5u d52 d53 d55 d54 d56
theorem g8v {O : Orac} {f : String} {as as' : List AV} {r : AV} {h : Heap} {k : AV → Heap → Prop} (hz : FzL h as as') (ha : ∀ a ∈ as, Frz a) (hf : Fn O f as' r) (hk : k r h) : @c3e O f as h ⟨k⟩ :=
  ⟨r, h, ⟨as', r, [], [], hz, hf.o, .inl ha, .frz r hf.r, rfl, fun k sz es hh => by simp at hh, rfl⟩, hk⟩
theorem c8z {h0 h : Heap} {v : AV} {sz i : Nat} {rows : List (List AV)} (hv : b0l h0 v sz rows) (hi : b0a v i) : (b8r h v).ob i = h.ob i := by
  rcases hv with ⟨rfl, _⟩ | ⟨id, rfl, _, _⟩
  · rfl
  · exact d2j fun e => hi e.symm
attribute [go_sem] beq_self_eq_true eq_self
theorem nxa {a b : Nat} : (nxs a = nxs b) = (a = b) := by simp [nxs]
theorem nxb {a b : Nat} : (nxs a < nxs b) = (a < b) := by simp [nxs]
theorem j3g {n : Nat} : (n < nxs n) = True := by simp only [nxs, eq_iff_iff, iff_true]; omega
theorem j3w {i n : Nat} (h : i < n) : (i < nxs n) = True := by simp only [nxs, eq_iff_iff, iff_true]; omega
theorem j1k {n : Nat} : (n = nxs n) = False := by simp only [nxs, eq_iff_iff, iff_false]; omega
theorem j10 {n : Nat} : (nxs n = n) = False := by simp only [nxs, eq_iff_iff, iff_false]; omega
theorem j2h {i n : Nat} (h : i < n) : (i = nxs n) = False := by simp only [nxs, eq_iff_iff, iff_false]; omega
theorem j2y {i n : Nat} (h : i < n) : (nxs n = i) = False := by simp only [nxs, eq_iff_iff, iff_false]; omega
theorem j3o {n : Nat} : (n < nxs (nxs n)) = True := by simp only [nxs, eq_iff_iff, iff_true]; omega
theorem j34 {i n : Nat} (h : i < n) : (i < nxs (nxs n)) = True := by simp only [nxs, eq_iff_iff, iff_true]; omega
theorem j1s {n : Nat} : (n = nxs (nxs n)) = False := by simp only [nxs, eq_iff_iff, iff_false]; omega
theorem j18 {n : Nat} : (nxs (nxs n) = n) = False := by simp only [nxs, eq_iff_iff, iff_false]; omega
theorem j2p {i n : Nat} (h : i < n) : (i = nxs (nxs n)) = False := by simp only [nxs, eq_iff_iff, iff_false]; omega
theorem j26 {i n : Nat} (h : i < n) : (nxs (nxs n) = i) = False := by simp only [nxs, eq_iff_iff, iff_false]; omega
theorem j3p {n : Nat} : (n < nxs (nxs (nxs n))) = True := by simp only [nxs, eq_iff_iff, iff_true]; omega
theorem j35 {i n : Nat} (h : i < n) : (i < nxs (nxs (nxs n))) = True := by simp only [nxs, eq_iff_iff, iff_true]; omega
theorem j1t {n : Nat} : (n = nxs (nxs (nxs n))) = False := by simp only [nxs, eq_iff_iff, iff_false]; omega
theorem j19 {n : Nat} : (nxs (nxs (nxs n)) = n) = False := by simp only [nxs, eq_iff_iff, iff_false]; omega
theorem j2q {i n : Nat} (h : i < n) : (i = nxs (nxs (nxs n))) = False := by simp only [nxs, eq_iff_iff, iff_false]; omega
theorem j27 {i n : Nat} (h : i < n) : (nxs (nxs (nxs n)) = i) = False := by simp only [nxs, eq_iff_iff, iff_false]; omega
theorem j3q {n : Nat} : (n < nxs (nxs (nxs (nxs n)))) = True := by simp only [nxs, eq_iff_iff, iff_true]; omega
theorem j36 {i n : Nat} (h : i < n) : (i < nxs (nxs (nxs (nxs n)))) = True := by simp only [nxs, eq_iff_iff, iff_true]; omega
theorem j1u {n : Nat} : (n = nxs (nxs (nxs (nxs n)))) = False := by simp only [nxs, eq_iff_iff, iff_false]; omega
theorem j2a {n : Nat} : (nxs (nxs (nxs (nxs n))) = n) = False := by simp only [nxs, eq_iff_iff, iff_false]; omega
theorem j2r {i n : Nat} (h : i < n) : (i = nxs (nxs (nxs (nxs n)))) = False := by simp only [nxs, eq_iff_iff, iff_false]; omega
theorem j28 {i n : Nat} (h : i < n) : (nxs (nxs (nxs (nxs n))) = i) = False := by simp only [nxs, eq_iff_iff, iff_false]; omega
theorem j3r {n : Nat} : (n < nxs (nxs (nxs (nxs (nxs n))))) = True := by simp only [nxs, eq_iff_iff, iff_true]; omega
theorem j37 {i n : Nat} (h : i < n) : (i < nxs (nxs (nxs (nxs (nxs n))))) = True := by simp only [nxs, eq_iff_iff, iff_true]; omega
theorem j1v {n : Nat} : (n = nxs (nxs (nxs (nxs (nxs n))))) = False := by simp only [nxs, eq_iff_iff, iff_false]; omega
theorem j2b {n : Nat} : (nxs (nxs (nxs (nxs (nxs n)))) = n) = False := by simp only [nxs, eq_iff_iff, iff_false]; omega
theorem j2s {i n : Nat} (h : i < n) : (i = nxs (nxs (nxs (nxs (nxs n))))) = False := by simp only [nxs, eq_iff_iff, iff_false]; omega
theorem j29 {i n : Nat} (h : i < n) : (nxs (nxs (nxs (nxs (nxs n)))) = i) = False := by simp only [nxs, eq_iff_iff, iff_false]; omega
theorem j3s {n : Nat} : (n < nxs (nxs (nxs (nxs (nxs (nxs n)))))) = True := by simp only [nxs, eq_iff_iff, iff_true]; omega
theorem j38 {i n : Nat} (h : i < n) : (i < nxs (nxs (nxs (nxs (nxs (nxs n)))))) = True := by simp only [nxs, eq_iff_iff, iff_true]; omega
theorem j1w {n : Nat} : (n = nxs (nxs (nxs (nxs (nxs (nxs n)))))) = False := by simp only [nxs, eq_iff_iff, iff_false]; omega
theorem j2c {n : Nat} : (nxs (nxs (nxs (nxs (nxs (nxs n))))) = n) = False := by simp only [nxs, eq_iff_iff, iff_false]; omega
theorem j2t {i n : Nat} (h : i < n) : (i = nxs (nxs (nxs (nxs (nxs (nxs n)))))) = False := by simp only [nxs, eq_iff_iff, iff_false]; omega
theorem j3a {i n : Nat} (h : i < n) : (nxs (nxs (nxs (nxs (nxs (nxs n))))) = i) = False := by simp only [nxs, eq_iff_iff, iff_false]; omega
theorem j3t {n : Nat} : (n < nxs (nxs (nxs (nxs (nxs (nxs (nxs n))))))) = True := by simp only [nxs, eq_iff_iff, iff_true]; omega
theorem j39 {i n : Nat} (h : i < n) : (i < nxs (nxs (nxs (nxs (nxs (nxs (nxs n))))))) = True := by simp only [nxs, eq_iff_iff, iff_true]; omega
theorem j1x {n : Nat} : (n = nxs (nxs (nxs (nxs (nxs (nxs (nxs n))))))) = False := by simp only [nxs, eq_iff_iff, iff_false]; omega
theorem j2d {n : Nat} : (nxs (nxs (nxs (nxs (nxs (nxs (nxs n)))))) = n) = False := by simp only [nxs, eq_iff_iff, iff_false]; omega
theorem j2u {i n : Nat} (h : i < n) : (i = nxs (nxs (nxs (nxs (nxs (nxs (nxs n))))))) = False := by simp only [nxs, eq_iff_iff, iff_false]; omega
theorem j3b {i n : Nat} (h : i < n) : (nxs (nxs (nxs (nxs (nxs (nxs (nxs n)))))) = i) = False := by simp only [nxs, eq_iff_iff, iff_false]; omega
theorem j3u {n : Nat} : (n < nxs (nxs (nxs (nxs (nxs (nxs (nxs (nxs n)))))))) = True := by simp only [nxs, eq_iff_iff, iff_true]; omega
theorem j4a {i n : Nat} (h : i < n) : (i < nxs (nxs (nxs (nxs (nxs (nxs (nxs (nxs n)))))))) = True := by simp only [nxs, eq_iff_iff, iff_true]; omega
theorem j1y {n : Nat} : (n = nxs (nxs (nxs (nxs (nxs (nxs (nxs (nxs n)))))))) = False := by simp only [nxs, eq_iff_iff, iff_false]; omega
theorem j2e {n : Nat} : (nxs (nxs (nxs (nxs (nxs (nxs (nxs (nxs n))))))) = n) = False := by simp only [nxs, eq_iff_iff, iff_false]; omega
theorem j2v {i n : Nat} (h : i < n) : (i = nxs (nxs (nxs (nxs (nxs (nxs (nxs (nxs n)))))))) = False := by simp only [nxs, eq_iff_iff, iff_false]; omega
theorem j3c {i n : Nat} (h : i < n) : (nxs (nxs (nxs (nxs (nxs (nxs (nxs (nxs n))))))) = i) = False := by simp only [nxs, eq_iff_iff, iff_false]; omega
theorem j3v {n : Nat} : (n < nxs (nxs (nxs (nxs (nxs (nxs (nxs (nxs (nxs n))))))))) = True := by simp only [nxs, eq_iff_iff, iff_true]; omega
theorem j4b {i n : Nat} (h : i < n) : (i < nxs (nxs (nxs (nxs (nxs (nxs (nxs (nxs (nxs n))))))))) = True := by simp only [nxs, eq_iff_iff, iff_true]; omega
theorem j1z {n : Nat} : (n = nxs (nxs (nxs (nxs (nxs (nxs (nxs (nxs (nxs n))))))))) = False := by simp only [nxs, eq_iff_iff, iff_false]; omega
theorem j2f {n : Nat} : (nxs (nxs (nxs (nxs (nxs (nxs (nxs (nxs (nxs n)))))))) = n) = False := by simp only [nxs, eq_iff_iff, iff_false]; omega
theorem j2w {i n : Nat} (h : i < n) : (i = nxs (nxs (nxs (nxs (nxs (nxs (nxs (nxs (nxs n))))))))) = False := by simp only [nxs, eq_iff_iff, iff_false]; omega
theorem j3d {i n : Nat} (h : i < n) : (nxs (nxs (nxs (nxs (nxs (nxs (nxs (nxs (nxs n)))))))) = i) = False := by simp only [nxs, eq_iff_iff, iff_false]; omega
theorem j3h {n : Nat} : (n < nxs (nxs (nxs (nxs (nxs (nxs (nxs (nxs (nxs (nxs n)))))))))) = True := by simp only [nxs, eq_iff_iff, iff_true]; omega
theorem j3x {i n : Nat} (h : i < n) : (i < nxs (nxs (nxs (nxs (nxs (nxs (nxs (nxs (nxs (nxs n)))))))))) = True := by simp only [nxs, eq_iff_iff, iff_true]; omega
theorem j1l {n : Nat} : (n = nxs (nxs (nxs (nxs (nxs (nxs (nxs (nxs (nxs (nxs n)))))))))) = False := by simp only [nxs, eq_iff_iff, iff_false]; omega
theorem j11 {n : Nat} : (nxs (nxs (nxs (nxs (nxs (nxs (nxs (nxs (nxs (nxs n))))))))) = n) = False := by simp only [nxs, eq_iff_iff, iff_false]; omega
theorem j2i {i n : Nat} (h : i < n) : (i = nxs (nxs (nxs (nxs (nxs (nxs (nxs (nxs (nxs (nxs n)))))))))) = False := by simp only [nxs, eq_iff_iff, iff_false]; omega
theorem j2z {i n : Nat} (h : i < n) : (nxs (nxs (nxs (nxs (nxs (nxs (nxs (nxs (nxs (nxs n))))))))) = i) = False := by simp only [nxs, eq_iff_iff, iff_false]; omega
theorem j3i {n : Nat} : (n < nxs (nxs (nxs (nxs (nxs (nxs (nxs (nxs (nxs (nxs (nxs n))))))))))) = True := by simp only [nxs, eq_iff_iff, iff_true]; omega
theorem j3y {i n : Nat} (h : i < n) : (i < nxs (nxs (nxs (nxs (nxs (nxs (nxs (nxs (nxs (nxs (nxs n))))))))))) = True := by simp only [nxs, eq_iff_iff, iff_true]; omega
theorem j1m {n : Nat} : (n = nxs (nxs (nxs (nxs (nxs (nxs (nxs (nxs (nxs (nxs (nxs n))))))))))) = False := by simp only [nxs, eq_iff_iff, iff_false]; omega
theorem j12 {n : Nat} : (nxs (nxs (nxs (nxs (nxs (nxs (nxs (nxs (nxs (nxs (nxs n)))))))))) = n) = False := by simp only [nxs, eq_iff_iff, iff_false]; omega
theorem j2j {i n : Nat} (h : i < n) : (i = nxs (nxs (nxs (nxs (nxs (nxs (nxs (nxs (nxs (nxs (nxs n))))))))))) = False := by simp only [nxs, eq_iff_iff, iff_false]; omega
theorem j20 {i n : Nat} (h : i < n) : (nxs (nxs (nxs (nxs (nxs (nxs (nxs (nxs (nxs (nxs (nxs n)))))))))) = i) = False := by simp only [nxs, eq_iff_iff, iff_false]; omega
theorem j3j {n : Nat} : (n < nxs (nxs (nxs (nxs (nxs (nxs (nxs (nxs (nxs (nxs (nxs (nxs n)))))))))))) = True := by simp only [nxs, eq_iff_iff, iff_true]; omega
theorem j3z {i n : Nat} (h : i < n) : (i < nxs (nxs (nxs (nxs (nxs (nxs (nxs (nxs (nxs (nxs (nxs (nxs n)))))))))))) = True := by simp only [nxs, eq_iff_iff, iff_true]; omega
theorem j1n {n : Nat} : (n = nxs (nxs (nxs (nxs (nxs (nxs (nxs (nxs (nxs (nxs (nxs (nxs n)))))))))))) = False := by simp only [nxs, eq_iff_iff, iff_false]; omega
theorem j13 {n : Nat} : (nxs (nxs (nxs (nxs (nxs (nxs (nxs (nxs (nxs (nxs (nxs (nxs n))))))))))) = n) = False := by simp only [nxs, eq_iff_iff, iff_false]; omega
theorem j2k {i n : Nat} (h : i < n) : (i = nxs (nxs (nxs (nxs (nxs (nxs (nxs (nxs (nxs (nxs (nxs (nxs n)))))))))))) = False := by simp only [nxs, eq_iff_iff, iff_false]; omega
theorem j21 {i n : Nat} (h : i < n) : (nxs (nxs (nxs (nxs (nxs (nxs (nxs (nxs (nxs (nxs (nxs (nxs n))))))))))) = i) = False := by simp only [nxs, eq_iff_iff, iff_false]; omega
theorem j3k {n : Nat} : (n < nxs (nxs (nxs (nxs (nxs (nxs (nxs (nxs (nxs (nxs (nxs (nxs (nxs n))))))))))))) = True := by simp only [nxs, eq_iff_iff, iff_true]; omega
theorem j30 {i n : Nat} (h : i < n) : (i < nxs (nxs (nxs (nxs (nxs (nxs (nxs (nxs (nxs (nxs (nxs (nxs (nxs n))))))))))))) = True := by simp only [nxs, eq_iff_iff, iff_true]; omega
theorem j1o {n : Nat} : (n = nxs (nxs (nxs (nxs (nxs (nxs (nxs (nxs (nxs (nxs (nxs (nxs (nxs n))))))))))))) = False := by simp only [nxs, eq_iff_iff, iff_false]; omega
theorem j14 {n : Nat} : (nxs (nxs (nxs (nxs (nxs (nxs (nxs (nxs (nxs (nxs (nxs (nxs (nxs n)))))))))))) = n) = False := by simp only [nxs, eq_iff_iff, iff_false]; omega
theorem j2l {i n : Nat} (h : i < n) : (i = nxs (nxs (nxs (nxs (nxs (nxs (nxs (nxs (nxs (nxs (nxs (nxs (nxs n))))))))))))) = False := by simp only [nxs, eq_iff_iff, iff_false]; omega
theorem j22 {i n : Nat} (h : i < n) : (nxs (nxs (nxs (nxs (nxs (nxs (nxs (nxs (nxs (nxs (nxs (nxs (nxs n)))))))))))) = i) = False := by simp only [nxs, eq_iff_iff, iff_false]; omega
theorem j3l {n : Nat} : (n < nxs (nxs (nxs (nxs (nxs (nxs (nxs (nxs (nxs (nxs (nxs (nxs (nxs (nxs n)))))))))))))) = True := by simp only [nxs, eq_iff_iff, iff_true]; omega
theorem j31 {i n : Nat} (h : i < n) : (i < nxs (nxs (nxs (nxs (nxs (nxs (nxs (nxs (nxs (nxs (nxs (nxs (nxs (nxs n)))))))))))))) = True := by simp only [nxs, eq_iff_iff, iff_true]; omega
theorem j1p {n : Nat} : (n = nxs (nxs (nxs (nxs (nxs (nxs (nxs (nxs (nxs (nxs (nxs (nxs (nxs (nxs n)))))))))))))) = False := by simp only [nxs, eq_iff_iff, iff_false]; omega
theorem j15 {n : Nat} : (nxs (nxs (nxs (nxs (nxs (nxs (nxs (nxs (nxs (nxs (nxs (nxs (nxs (nxs n))))))))))))) = n) = False := by simp only [nxs, eq_iff_iff, iff_false]; omega
theorem j2m {i n : Nat} (h : i < n) : (i = nxs (nxs (nxs (nxs (nxs (nxs (nxs (nxs (nxs (nxs (nxs (nxs (nxs (nxs n)))))))))))))) = False := by simp only [nxs, eq_iff_iff, iff_false]; omega
theorem j23 {i n : Nat} (h : i < n) : (nxs (nxs (nxs (nxs (nxs (nxs (nxs (nxs (nxs (nxs (nxs (nxs (nxs (nxs n))))))))))))) = i) = False := by simp only [nxs, eq_iff_iff, iff_false]; omega
theorem j3m {n : Nat} : (n < nxs (nxs (nxs (nxs (nxs (nxs (nxs (nxs (nxs (nxs (nxs (nxs (nxs (nxs (nxs n))))))))))))))) = True := by simp only [nxs, eq_iff_iff, iff_true]; omega
theorem j32 {i n : Nat} (h : i < n) : (i < nxs (nxs (nxs (nxs (nxs (nxs (nxs (nxs (nxs (nxs (nxs (nxs (nxs (nxs (nxs n))))))))))))))) = True := by simp only [nxs, eq_iff_iff, iff_true]; omega
theorem j1q {n : Nat} : (n = nxs (nxs (nxs (nxs (nxs (nxs (nxs (nxs (nxs (nxs (nxs (nxs (nxs (nxs (nxs n))))))))))))))) = False := by simp only [nxs, eq_iff_iff, iff_false]; omega
theorem j16 {n : Nat} : (nxs (nxs (nxs (nxs (nxs (nxs (nxs (nxs (nxs (nxs (nxs (nxs (nxs (nxs (nxs n)))))))))))))) = n) = False := by simp only [nxs, eq_iff_iff, iff_false]; omega
theorem j2n {i n : Nat} (h : i < n) : (i = nxs (nxs (nxs (nxs (nxs (nxs (nxs (nxs (nxs (nxs (nxs (nxs (nxs (nxs (nxs n))))))))))))))) = False := by simp only [nxs, eq_iff_iff, iff_false]; omega
theorem j24 {i n : Nat} (h : i < n) : (nxs (nxs (nxs (nxs (nxs (nxs (nxs (nxs (nxs (nxs (nxs (nxs (nxs (nxs (nxs n)))))))))))))) = i) = False := by simp only [nxs, eq_iff_iff, iff_false]; omega
theorem j3n {n : Nat} : (n < nxs (nxs (nxs (nxs (nxs (nxs (nxs (nxs (nxs (nxs (nxs (nxs (nxs (nxs (nxs (nxs n)))))))))))))))) = True := by simp only [nxs, eq_iff_iff, iff_true]; omega
theorem j33 {i n : Nat} (h : i < n) : (i < nxs (nxs (nxs (nxs (nxs (nxs (nxs (nxs (nxs (nxs (nxs (nxs (nxs (nxs (nxs (nxs n)))))))))))))))) = True := by simp only [nxs, eq_iff_iff, iff_true]; omega
theorem j1r {n : Nat} : (n = nxs (nxs (nxs (nxs (nxs (nxs (nxs (nxs (nxs (nxs (nxs (nxs (nxs (nxs (nxs (nxs n)))))))))))))))) = False := by simp only [nxs, eq_iff_iff, iff_false]; omega
theorem j17 {n : Nat} : (nxs (nxs (nxs (nxs (nxs (nxs (nxs (nxs (nxs (nxs (nxs (nxs (nxs (nxs (nxs (nxs n))))))))))))))) = n) = False := by simp only [nxs, eq_iff_iff, iff_false]; omega
theorem j2o {i n : Nat} (h : i < n) : (i = nxs (nxs (nxs (nxs (nxs (nxs (nxs (nxs (nxs (nxs (nxs (nxs (nxs (nxs (nxs (nxs n)))))))))))))))) = False := by simp only [nxs, eq_iff_iff, iff_false]; omega
theorem j25 {i n : Nat} (h : i < n) : (nxs (nxs (nxs (nxs (nxs (nxs (nxs (nxs (nxs (nxs (nxs (nxs (nxs (nxs (nxs (nxs n))))))))))))))) = i) = False := by simp only [nxs, eq_iff_iff, iff_false]; omega
theorem j2g {i : Nat} {h : Heap} (hl : i < h.nx) : (i = h.nx) = False := by simp only [eq_iff_iff, iff_false]; omega
theorem j2x {i : Nat} {h : Heap} (hl : i < h.nx) : (h.nx = i) = False := by simp only [eq_iff_iff, iff_false]; omega
attribute [go_sem] nxa nxb j3g j3w j1k j10 j2h j2y j3o j34 j1s j18 j2p j26 j3p j35 j1t j19 j2q j27 j3q j36 j1u j2a j2r j28 j3r j37 j1v j2b j2s j29 j3s j38 j1w j2c j2t j3a j3t j39 j1x j2d j2u j3b j3u j4a j1y j2e j2v j3c j3v j4b j1z j2f j2w j3d j3h j3x j1l j11 j2i j2z j3i j3y j1m j12 j2j j20 j3j j3z j1n j13 j2k j21 j3k j30 j1o j14 j2l j22 j3l j31 j1p j15 j2m j23 j3m j32 j1q j16 j2n j24 j3n j33 j1r j17 j2o j25 j2g j2x
end Go.Nw
