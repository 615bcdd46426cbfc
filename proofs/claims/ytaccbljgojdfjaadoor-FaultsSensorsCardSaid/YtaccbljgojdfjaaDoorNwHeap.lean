/- Own objects: rules for what makes, reads, writes and hands them over. -/
import Derived.Test.YtaccbljgojdfjaaDoorNwModel
set_option linter.all false
set_option linter.unusedVariables false
set_option linter.unusedSimpArgs false
set_option linter.unusedSectionVars false
namespace Go.Nw
theorem c2m {h : Heap} {o : Ob} {i : Nat} (hl : i < h.nx) : (h.new o).ob i = h.ob i := by
  simp only [Heap.new]; rw [if_neg (by omega)]
theorem c2l {h : Heap} {o : Ob} {i : Nat} (hl : i = h.nx) : (h.new o).ob i = some o := by
  simp only [Heap.new]; rw [if_pos hl]
theorem c81 {h : Heap} {o : Option Ob} {i j : Nat} (hl : ¬ i = j) : (h.upd j o).ob i = h.ob i := by
  simp only [Heap.upd]; rw [if_neg hl]
theorem g44 {h : Heap} {o : Option Ob} {i j : Nat} (hl : i = j) : (h.upd j o).ob i = o := by
  simp only [Heap.upd]; rw [if_pos hl]
theorem c45 {p : Prop} : @b2l True ⟨p⟩ = p := by simp [b2l]
theorem b1t {α : Type} {f : α → List AV} {l : List α} {i : Int} {x : α} {sz : Nat} {k : Nat → List (List AV) → List AV → Prop} (hx : get l i = some x) :
    @b8y (some (sz, List.map f l)) i.toNat ⟨k⟩ = k sz (List.map f l) (f x) := by
  show b4k _ _ _ = _
  simp only [c8j, List.getElem?_map, b20 hx, Option.map_some, Option.some.injEq]
  apply propext; constructor
  · rintro ⟨_, rfl, hk⟩; exact hk
  · exact fun hk => ⟨_, rfl, hk⟩
theorem g4i {l : List Int} {n : Nat} {v : Int} : (List.map eI l).set n [I v] = List.map eI (l.set n v) := by rw [List.map_set]; rfl
theorem g4h {l : List Bool} {n : Nat} {v : Bool} : (List.map eB l).set n [B v] = List.map eB (l.set n v) := by rw [List.map_set]; rfl
def mks {α : Type} (b : Nat) (n : Int) (z : α) : Option (List α) := if 0 ≤ n ∧ n * b ≤ 2 ^ 47 ∧ n < 2 ^ 63 then some (List.replicate n.toNat z) else none
theorem c2k {α : Type} {b : Nat} {n : Int} {z : α} {l : List α} (h : mks b n z = some l) : 0 ≤ n ∧ n * b ≤ 2 ^ 47 ∧ n < 2 ^ 63 ∧ l = List.replicate n.toNat z := by
  unfold mks at h; split at h
  · rename_i hc; cases h; exact ⟨hc.1, hc.2.1, hc.2.2, rfl⟩
  · cases h
theorem d8g {α : Type} {b : Nat} {n : Int} {z : α} (h0 : 0 ≤ n) (h1 : n * b ≤ 2 ^ 47) (h2 : n < 2 ^ 63) : mks b n z = some (List.replicate n.toNat z) := by
  unfold mks; rw [if_pos ⟨h0, h1, h2⟩]
def ap {α : Type} (b : Nat) (l m : List α) : Option (List α) := if (l.length + m.length) * b ≤ 2 ^ 40 then some (l ++ m) else none
theorem b71 {α : Type} {b : Nat} {l m r : List α} (h : ap b l m = some r) : (l.length + m.length) * b ≤ 2 ^ 40 ∧ r = l ++ m := by
  unfold ap at h; split at h
  · rename_i hc; cases h; exact ⟨hc, rfl⟩
  · cases h
theorem c3e {α : Type} {b : Nat} {l m : List α} (h : (l.length + m.length) * b ≤ 2 ^ 40) : ap b l m = some (l ++ m) := by
  unfold ap; rw [if_pos h]
def b8u (sz : Nat) (zs : List Value) (b : Nat) (l c : AV) (h : Heap) [k : K2] : Prop := ∃ r h', eff (.mksl sz zs b (.t 0) (.t 1)) (evT fun i => if i = 0 then l else c) h = some (r, h') ∧ k.k r h'
def b6w (sz b : Nat) (s x : AV) (h : Heap) [k : K2] : Prop := ∃ r h', eff (.app sz b (.t 0) (.t 1)) (evT fun i => if i = 0 then s else x) h = some (r, h') ∧ k.k r h'
def c1j (sz : Nat) (vs : List AV) (h : Heap) [k : K2] : Prop := (vs.all fun x => b05 x && (cellsOf x).length == sz) = true ∧ k.k (.rs h.nx 0 vs.length) (h.new (sz, vs.map cellsOf))
section
variable {O : Orac} {d : Option Nat} {g : Nat} {b0 : Bool} {r : List XO} {K : Slots → Heap → Prop} {t : Slots} {h : Heap} {k : AV → Heap → Prop}
theorem d5u {sz zs b l c} : b0a O (⟨d, none, .mksl sz zs b l c⟩ :: r) K t h = @iop O (.mksl sz zs b l c) t h ⟨fun v h' => b0a O r K (b0b t d v) h'⟩ := b1f rfl
theorem d6o {sz zs b l c} : b0a O (⟨d, some (g, b0), .mksl sz zs b l c⟩ :: r) K t h = @b1c (t g) b0 ⟨@iop O (.mksl sz zs b l c) (upd t g (B b0)) h ⟨fun v h' => b0a O r K (b0b (upd t g (B b0)) d v) h'⟩⟩ ⟨b0a O r K (b0b (upd t g (B (!b0))) d U) h⟩ ⟨b0a O r K (b0b t d U) h⟩ := b1g rfl
theorem d5a {sz b s x} : b0a O (⟨d, none, .app sz b s x⟩ :: r) K t h = @iop O (.app sz b s x) t h ⟨fun v h' => b0a O r K (b0b t d v) h'⟩ := b1f rfl
theorem d56 {sz b s x} : b0a O (⟨d, some (g, b0), .app sz b s x⟩ :: r) K t h = @b1c (t g) b0 ⟨@iop O (.app sz b s x) (upd t g (B b0)) h ⟨fun v h' => b0a O r K (b0b (upd t g (B b0)) d v) h'⟩⟩ ⟨b0a O r K (b0b (upd t g (B (!b0))) d U) h⟩ ⟨b0a O r K (b0b t d U) h⟩ := b1g rfl
theorem d5e {sz vs} : b0a O (⟨d, none, .bsl sz vs⟩ :: r) K t h = @iop O (.bsl sz vs) t h ⟨fun v h' => b0a O r K (b0b t d v) h'⟩ := b1f rfl
theorem d6a {sz vs} : b0a O (⟨d, some (g, b0), .bsl sz vs⟩ :: r) K t h = @b1c (t g) b0 ⟨@iop O (.bsl sz vs) (upd t g (B b0)) h ⟨fun v h' => b0a O r K (b0b (upd t g (B b0)) d v) h'⟩⟩ ⟨b0a O r K (b0b (upd t g (B (!b0))) d U) h⟩ ⟨b0a O r K (b0b t d U) h⟩ := b1g rfl
theorem d7j {sz zs b l c} : @iop O (.mksl sz zs b l c) t h ⟨k⟩ = @b8u sz zs b (evT t l) (evT t c) h ⟨k⟩ := by
  simp only [iop, op1, b8u, eff, evT, if_true, Nat.one_ne_zero, if_false]
theorem d6z {sz b s x} : @iop O (.app sz b s x) t h ⟨k⟩ = @b6w sz b (evT t s) (evT t x) h ⟨k⟩ := by
  simp only [iop, op1, b6w, eff, evT, if_true, Nat.one_ne_zero, if_false]
theorem d63 {sz vs} : @iop O (.bsl sz vs) t h ⟨k⟩ = @c1j sz (vs.map (evT t)) h ⟨k⟩ := by
  simp only [iop, op1, c1j, eff, List.length_map]
  apply propext; constructor
  · rintro ⟨r, h', he, hk⟩
    split at he
    · rename_i hc; cases he; exact ⟨hc, hk⟩
    · cases he
  · rintro ⟨hc, hk⟩
    exact ⟨_, _, by rw [if_pos hc], hk⟩
theorem c50 {sz vs} : @c1j sz vs h ⟨k⟩ = @b2l ((vs.all fun x => b05 x && (cellsOf x).length == sz) = true) ⟨k (.rs h.nx 0 vs.length) (h.new (sz, vs.map cellsOf))⟩ := rfl
theorem d6x {α : Type} {f : α → List AV} {z : α} {sz : Nat} {zs : List Value} {b : Nat} {n : Int} {l : List α} (hz : zs.map .v = f z) (hm : mks b n z = some l)
    (hk : k (.rs h.nx 0 (List.length l)) (h.new (sz, List.map f l))) : @b8u sz zs b (I n) (I n) h ⟨k⟩ := by
  obtain ⟨h0, h1, h2, rfl⟩ := c2k hm
  rw [List.length_replicate, List.map_replicate, ← hz] at hk
  refine ⟨_, _, ?_, hk⟩
  simp only [eff, evT, if_true, Nat.one_ne_zero, if_false]
  rw [if_pos ⟨trivial, h0, h1, h2⟩]
def b3n (h : Heap) (v : AV) (o : Ob) : Heap := (match v with | .rs id _ _ => h.upd id none | _ => h).new o
theorem b72 {a : Option Addr} {b c : Nat} {o : Ob} : b3n h (.v (.slice a b c)) o = h.new o := rfl
theorem b73 {id lo len : Nat} {o : Ob} : b3n h (.rs id lo len) o = (h.upd id none).new o := rfl
def b1i (h : Heap) (v : AV) (sz : Nat) (rows : List (List AV)) : Prop := (v = .v (.slice none 0 0) ∧ rows = []) ∨ ∃ id, v = .rs id 0 rows.length ∧ h.ob id = some (sz, rows) ∧ id < h.nx
def c0j (h : Heap) (v : AV) (sz : Nat) (rows : List (List AV)) : Prop := v = .fs sz rows ∨ ∃ id, v = .rs id 0 rows.length ∧ h.ob id = some (sz, rows)
def b0l (v : AV) (i : Nat) : Prop := match v with | .rs id _ _ => ¬ id = i | _ => True
theorem c1i {α : Type} {f : α → List AV} {sz b : Nat} {s x : AV} {l m r : List α} (hs : b1i h s sz (List.map f l)) (hx : c0j h x sz (List.map f m)) (hd : ∀ i, ¬ b0l s i → b0l x i) (hn : s = .v (.slice none 0 0) → ¬ m = [])
    (ha : ap b l m = some r) (hk : k (.rs h.nx 0 (List.length r)) (b3n h s (sz, List.map f r))) : @b6w sz b s x h ⟨k⟩ := by
  obtain ⟨hb, rfl⟩ := b71 ha
  rw [List.length_append, List.map_append] at hk
  refine ⟨_, _, ?_, hk⟩
  simp only [eff, evT, if_true, Nat.one_ne_zero, if_false]
  rcases hs with ⟨rfl, hl⟩ | ⟨id, rfl, ho, hlt⟩
  · have hl' : l = [] := by simpa using hl
    subst hl'
    have hm : ¬ m.length = 0 := fun e => hn rfl (List.length_eq_zero_iff.1 e)
    rcases hx with rfl | ⟨id2, rfl, ho2⟩
    · simp only [List.length_map, hm, if_false, List.map_nil, List.nil_append, List.length_nil, Nat.zero_add, b72]
      rw [if_pos ⟨trivial, by simpa using hb⟩]
    · simp only [ho2, Option.bind_some, List.length_map, hm, if_false, List.map_nil, List.nil_append, List.length_nil, Nat.zero_add, b72]
      rw [if_pos ⟨trivial, by simp, by simpa using hb⟩]
      simp [List.take_of_length_le]
  · rcases hx with rfl | ⟨id2, rfl, ho2⟩
    · simp only [ho, Option.bind_some, List.length_map, b73]
      rw [if_pos ⟨trivial, trivial, by simp, hb⟩]
      simp [List.take_of_length_le]
    · have hne : id ≠ id2 := fun e => hd id (by simp [b0l]) e.symm
      simp only [ho, ho2, Option.bind_some, List.length_map, b73]
      rw [if_pos ⟨trivial, trivial, hne, by simp, by simp, hb⟩]
      simp [List.take_of_length_le]
theorem g27 {sz : Nat} : b1i h (.v (.slice none 0 0)) sz [] := .inl ⟨rfl, rfl⟩
theorem c76 {α : Type} {f : α → List AV} {sz : Nat} : b1i h (.v (.slice none 0 0)) sz (List.map f []) := .inl ⟨rfl, rfl⟩
theorem b9d {id n sz : Nat} {rows : List (List AV)} (ho : h.ob id = some (sz, rows)) (hl : n = rows.length) (hn : id < h.nx) : b1i h (.rs id 0 n) sz rows := .inr ⟨id, by rw [hl], ho, hn⟩
theorem c77 {id n sz : Nat} {rows : List (List AV)} (ho : h.ob id = some (sz, rows)) (hl : n = rows.length) : c0j h (.rs id 0 n) sz rows := .inr ⟨id, by rw [hl], ho⟩
theorem g28 {sz : Nat} {rows : List (List AV)} : c0j h (.fs sz rows) sz rows := .inl rfl
theorem c7n {s : AV} {id lo n : Nat} (hs : b0l s id) : ∀ i, ¬ b0l s i → b0l (.rs id lo n) i := fun i hi e => hi (e ▸ hs)
theorem d8o {s : AV} {sz : Nat} {rows : List (List AV)} : ∀ i, ¬ b0l s i → b0l (.fs sz rows) i := fun _ _ => trivial
theorem c7r {a : Value} {i : Nat} : b0l (.v a) i := trivial
theorem c7s {id lo n i : Nat} (hl : ¬ id = i) : b0l (.rs id lo n) i := hl
theorem c2o {v : AV} {sz : Nat} {rows : List (List AV)} (hv : b1i h v sz rows) {i : Nat} (hi : h.nx ≤ i) : b0l v i := by
  rcases hv with ⟨rfl, _⟩ | ⟨id, rfl, _, hlt⟩
  · trivial
  · exact fun e => by omega
theorem b75 {es : List (List AV)} {i j : Nat} {c : AV} (h : at2 es i j = some c) : ∃ e, es[i]? = some e ∧ e[j]? = some c := by
  unfold at2 at h
  cases he : es[i]? with
  | none => simp [he] at h
  | some e => exact ⟨e, rfl, by rw [he] at h; exact h⟩
theorem c1f {α : Type} {f : α → List AV} {v : AV} {sz : Nat} {l : List α} (hv : b1i h v sz (List.map f l)) (hf : ∀ a, ∀ c ∈ f a, Frz c) (hl : ∀ a, (f a).length = sz) : Fz h v (.fs sz (List.map f l)) := by
  rcases hv with ⟨rfl, hr⟩ | ⟨id, rfl, ho, _⟩
  · rw [hr]; exact .nil sz
  · refine .rs id 0 _ sz _ _ ho (by simp) rfl (fun d hd => ?_) (fun i j c d h1 h2 => ?_)
    · obtain ⟨a, _, rfl⟩ := List.mem_map.1 hd; exact hl a
    · rw [Nat.zero_add] at h1
      rw [h1] at h2; cases h2
      obtain ⟨e, he, hc⟩ := b75 h1
      obtain ⟨a, _, rfl⟩ := List.mem_map.1 (List.mem_of_getElem? he)
      exact .refl _ (hf a _ (List.mem_of_getElem? hc))
theorem d3s {α : Type} {f : α → List AV} {id n sz : Nat} {l : List α} (ho : h.ob id = some (sz, List.map f l)) (hn : n = List.length l) (hf : ∀ a, ∀ c ∈ f a, Frz c) (hl : ∀ a, (f a).length = sz) : Fz h (.rs id 0 n) (.fs sz (List.map f l)) := by
  subst hn
  refine .rs id 0 _ sz _ _ ho (by simp) (by simp) (fun d hd => ?_) (fun i j c d h1 h2 => ?_)
  · obtain ⟨a, _, rfl⟩ := List.mem_map.1 hd; exact hl a
  · rw [Nat.zero_add] at h1
    rw [h1] at h2; cases h2
    obtain ⟨e, he, hc⟩ := b75 h1
    obtain ⟨a, _, rfl⟩ := List.mem_map.1 (List.mem_of_getElem? he)
    exact .refl _ (hf a _ (List.mem_of_getElem? hc))
theorem c40 {xs ys : List AV} (hz : FzL h xs ys) : xs.length = ys.length ∧ ∀ (i : Nat) c d, xs[i]? = some c → ys[i]? = some d → Fz h c d := by
  induction hz with
  | nil => exact ⟨rfl, fun i c d hc => by simp at hc⟩
  | cons a _ ih =>
    refine ⟨by simp [ih.1], fun i c d hc hd => ?_⟩
    cases i with
    | zero => simp at hc hd; subst hc; subst hd; exact a
    | succ i => simp at hc hd; exact ih.2 i c d hc hd
theorem c4z {xs ys : List AV} (hz : FzL h xs ys) : Fz h (.tup xs) (.tup ys) := .tup _ _ (c40 hz).1 (c40 hz).2
theorem c34 {n : Nat} {v r : AV} (ht : t n = v) (hz : Fz h v r) : b2n [.t n] r [] ⟨t, h⟩ := by
  subst ht; exact .inl ⟨rfl, [t n], rfl, hz⟩
theorem c0w {n m : Nat} {v r u s : AV} (ht : t n = v) (hu : t m = u) (hz : Fz h v r) (hz' : Fz h u s) : b2n [.t n, .t m] (.tup [r, s]) [] ⟨t, h⟩ := by
  subst ht; subst hu; exact .inl ⟨rfl, [t n, t m], rfl, c4z (.cons hz (.cons hz' .nil))⟩
theorem d2j {n sz id m : Nat} {cs : List AV} {r : AV} (ht : t n = .rp id 0 0) (ho : h.ob id = some (m, [cs])) (hl : cs.length = sz) (hz : Fz h (.agg cs) r) : b2n [.cell n true sz] r [] ⟨t, h⟩ := by
  refine .inl ⟨rfl, [.agg cs], ?_, hz⟩
  subst hl
  simp [b2g, eff, St.ev, ht, ho]
theorem b38 {n sz id m p : Nat} {cs : List AV} {r u s : AV} (ht : t n = .rp id 0 0) (ho : h.ob id = some (m, [cs])) (hl : cs.length = sz) (hu : t p = u) (hz : Fz h (.agg cs) r) (hz' : Fz h u s) : b2n [.cell n true sz, .t p] (.tup [r, s]) [] ⟨t, h⟩ := by
  refine .inl ⟨rfl, [.agg cs, u], ?_, c4z (.cons hz (.cons hz' .nil))⟩
  subst hl; subst hu
  simp [b2g, eff, St.ev, ht, ho]
theorem c0v {b : XCode} {Q : XExit → Slots → Heap → Prop} {t' : Slots} {h' : Heap} (hg : b36 ⟨t, h⟩ ⟨t', h'⟩) (hw : cw O b Q t' h') : cw O (.seq .ghost b) Q t h := ⟨⟨t', h'⟩, hg, hw⟩
def b5t (h : Heap) (v : AV) : Heap := match v with | .rs id _ _ => h.upd id none | .rp id _ _ => h.upd id none | _ => h
theorem c3k {id : Nat} : h.upd id none = h.but (· == id) := by
  simp only [Heap.upd, Heap.but, Heap.mk.injEq, and_true]
  funext j; by_cases e : j = id <;> simp [e]
theorem d0k : h = h.but fun _ => false := by simp [Heap.but]
theorem c1g {F : Nat → Bool} {s : Nat} {y : AV} (hc : b5e (h.only F) (t s) y) : b36 ⟨t, h⟩ ⟨upd t s y, h.but F⟩ := by
  refine ⟨F, rfl, rfl, fun id sz es' ho => ?_, fun j => ?_⟩
  · have ho' : (if F id then none else h.ob id) = some (sz, es') := ho
    split at ho'
    · cases ho'
    · rename_i hf
      exact ⟨by simpa using hf, es', ho', .inl rfl, fun i j d hd => ⟨d, hd, .inl rfl⟩⟩
  · show b5e _ (t j) (upd t s y j)
    by_cases e : j = s
    · subst e; rw [b9x]; exact hc
    · rw [b9w e]; exact .inl rfl
theorem d2d {α : Type} {f : α → List AV} {b : XCode} {Q : XExit → Slots → Heap → Prop} {s : Nat} {v : AV} {sz : Nat} {l : List α} (hs : t s = v) (hv : b1i h v sz (List.map f l)) (hf : ∀ a, ∀ c ∈ f a, Frz c) (hl : ∀ a, (f a).length = sz)
    (hw : cw O b Q (upd t s (.fs sz (List.map f l))) (b5t h v)) : cw O (.seq .ghost b) Q t h := by
  subst hs
  have hfr : Frz (.fs sz (List.map f l)) := .fs _ _ fun e he c hc => by obtain ⟨a, _, rfl⟩ := List.mem_map.1 he; exact hf a c hc
  rcases hv with ⟨hv, hr⟩ | ⟨id, hv, ho, hlt⟩
  · refine c0v (h' := b5t h (t s)) ?_ hw
    rw [hv]
    have := c1g (t := t) (h := h) (F := fun _ => false) (s := s) (y := .fs sz (List.map f l)) (.inr ⟨by rw [hv, hr]; exact .nil sz, hfr⟩)
    rw [← d0k] at this
    exact this
  · refine c0v (h' := b5t h (t s)) ?_ hw
    rw [hv]
    have := c1g (t := t) (h := h) (F := (· == id)) (s := s) (y := .fs sz (List.map f l)) (.inr ⟨by rw [hv]; exact d3s (by simp [Heap.only, ho]) (by simp) hf hl, hfr⟩)
    rw [← c3k] at this
    exact this
theorem c4s {a : Value} : b5t h (.v a) = h := rfl
theorem c4t {id lo n : Nat} : b5t h (.rs id lo n) = h.upd id none := rfl
theorem c32 {b : XCode} {Q : XExit → Slots → Heap → Prop} {s id n : Nat} {cs : List AV} (hs : t s = .rp id 0 0) (ho : h.ob id = some (n, [cs])) (hf : ∀ c ∈ cs, Frz c)
    (hw : cw O b Q (upd t s (.fp cs 0)) (h.upd id none)) : cw O (.seq .ghost b) Q t h := by
  refine c0v (h' := h.upd id none) ?_ hw
  rw [c3k]
  refine c1g (.inr ⟨?_, .fp _ _ hf⟩)
  rw [hs]
  exact .rp id 0 0 n [cs] cs cs (by simp [Heap.only, ho]) rfl rfl (fun i c d h1 h2 => by rw [h1] at h2; cases h2; exact .refl _ (hf _ (List.mem_of_getElem? h1)))
theorem d48 {α : Type} {f : α → List AV} {sz b id2 : Nat} {s : AV} {l : List α} {r : List α} {a : α} {raw : List AV} (hs : b1i h s sz (List.map f l)) (hx : h.ob id2 = some (sz, [raw])) (hd : b0l s id2)
    (ha : ap b l [a] = some r) (hk : k (.rs h.nx 0 (List.length r)) (b3n h s (sz, List.map f l ++ [raw]))) : @b6w sz b s (.rs id2 0 1) h ⟨k⟩ := by
  obtain ⟨hb, rfl⟩ := b71 ha
  rw [List.length_append] at hk
  refine ⟨_, _, ?_, hk⟩
  simp only [eff, evT, if_true, Nat.one_ne_zero, if_false]
  have hb' : (l.length + 1) * b ≤ 2 ^ 40 := by simpa using hb
  rcases hs with ⟨rfl, hl⟩ | ⟨id, rfl, ho, hlt⟩
  · have hl' : l = [] := by simpa using hl
    subst hl'
    simp only [hx, Option.bind_some, List.map_nil, List.nil_append, List.length_nil, List.length_cons, Nat.zero_add, b72, Nat.one_ne_zero, if_false]
    rw [if_pos ⟨trivial, by simp, by simpa using hb'⟩]
    simp
  · have hne : id ≠ id2 := hd
    simp only [ho, hx, Option.bind_some, List.length_map, b73]
    rw [if_pos ⟨trivial, trivial, hne, by simp, by simp, hb'⟩]
    simp [List.take_of_length_le]
end
theorem c9u {h : Heap} {v : AV} {o : Ob} : (b3n h v o).nx = nxs h.nx := by cases v <;> rfl
theorem c9v {h : Heap} {v : AV} {o : Ob} {i : Nat} (hi : b0l v i) (hl : i < h.nx) : (b3n h v o).ob i = h.ob i := by
  unfold b3n
  split
  · rw [c2m (by exact hl), c81]; exact fun e => hi e.symm
  · exact c2m hl
theorem c9t {h : Heap} {v : AV} {o : Ob} {i : Nat} (hl : i = h.nx) : (b3n h v o).ob i = some o := by
  unfold b3n
  split
  · exact c2l hl
  · exact c2l hl
theorem d3n {h : Heap} {v : AV} : (b5t h v).nx = h.nx := by cases v <;> rfl
attribute [go_sem ↓] d5u d6o d5a d56 d5e d6a d7j d6z d63 c50 c45
attribute [go_sem] c50 c45 b72 b73 c9u c4s c4t d3n Nat.zero_add g4i g4h
end Go.Nw
namespace Go.Nw
theorem b2w {O l b Q t h} (post : Slots → Heap → Prop) (h1 : ∀ K : Slots → Heap → Prop, (∀ t h, post t h → K t h) → b0a O l K t h) (h2 : ∀ t h, post t h → cw O b Q t h) : cw O (.seq (.reg l) b) Q t h :=
  d2f post (h1 post fun _ _ h => h) h2
theorem c69 (x : Int) : (eI x).length = 1 := rfl
end Go.Nw
namespace Go.Nw
theorem b3s {h h' : Heap} {v : AV} {sz : Nat} {rows : List (List AV)} (hv : b1i h v sz rows) (hk : ∀ j, ¬ b0l v j → j < h.nx → h'.ob j = h.ob j) (hn : h.nx ≤ h'.nx) : b1i h' v sz rows := by
  rcases hv with ⟨rfl, hr⟩ | ⟨id, rfl, ho, hlt⟩
  · exact .inl ⟨rfl, hr⟩
  · exact .inr ⟨id, rfl, by rw [hk id (by simp [b0l]) hlt]; exact ho, by omega⟩
end Go.Nw
namespace Go.Nw
theorem b1b {a b : Nat} (h : ¬ a = b) : ¬ b = a := fun e => h e.symm
theorem b02 {α : Type} {c : Bool} {a b : α} (h : c = true) : (if c then a else b) = a := if_pos h
theorem b01 {α : Type} {c : Bool} {a b : α} (h : c = false) : (if c then a else b) = b := if_neg (by simp [h])
attribute [go_sem] c2m c2l c81 g44 c9v c9t List.length_map Bool.true_or Bool.or_true Bool.false_or Bool.or_false Bool.true_and Bool.and_true Bool.false_and Bool.and_false Bool.false_eq_true List.length_set
end Go.Nw
namespace Go.Nw
end Go.Nw
namespace Go.Nw
end Go.Nw
namespace Go.Nw
def mn (a b : Int) : Int := if b < a then b else a
def mx (a b : Int) : Int := if b > a then b else a
theorem c7k (a b : Int) : mn a b = min a b := by unfold mn; split <;> omega
theorem c7m (a b : Int) : mx a b = max a b := by unfold mx; split <;> omega
def b5w (xs : List AV) [k : K1 AV] : Prop := ∃ r, b2z b4g xs = some r ∧ k.k r
def b5v (xs : List AV) [k : K1 AV] : Prop := ∃ r, b2z b4f xs = some r ∧ k.k r
section
variable {O : Orac} {d : Option Nat} {g : Nat} {b0 : Bool} {r : List XO} {K : Slots → Heap → Prop} {t : Slots} {h : Heap} {k : AV → Heap → Prop} {k1 : AV → Prop}
theorem d5s {xs} : b0a O (⟨d, none, .min xs⟩ :: r) K t h = @iop O (.min xs) t h ⟨fun v h' => b0a O r K (b0b t d v) h'⟩ := b1f rfl
theorem d6m {xs} : b0a O (⟨d, some (g, b0), .min xs⟩ :: r) K t h = @b1c (t g) b0 ⟨@iop O (.min xs) (upd t g (B b0)) h ⟨fun v h' => b0a O r K (b0b (upd t g (B b0)) d v) h'⟩⟩ ⟨b0a O r K (b0b (upd t g (B (!b0))) d U) h⟩ ⟨b0a O r K (b0b t d U) h⟩ := b1g rfl
theorem d5r {xs} : b0a O (⟨d, none, .max xs⟩ :: r) K t h = @iop O (.max xs) t h ⟨fun v h' => b0a O r K (b0b t d v) h'⟩ := b1f rfl
theorem d6l {xs} : b0a O (⟨d, some (g, b0), .max xs⟩ :: r) K t h = @b1c (t g) b0 ⟨@iop O (.max xs) (upd t g (B b0)) h ⟨fun v h' => b0a O r K (b0b (upd t g (B b0)) d v) h'⟩⟩ ⟨b0a O r K (b0b (upd t g (B (!b0))) d U) h⟩ ⟨b0a O r K (b0b t d U) h⟩ := b1g rfl
theorem d7h {xs} : @iop O (.min xs) t h ⟨k⟩ = @b5w (xs.map (evT t)) ⟨fun v => k v h⟩ := by
  simp only [iop, op1, b5w, eff, Option.map_eq_some_iff]
  apply propext; constructor
  · rintro ⟨r, h', ⟨x, h1, h2⟩, hk⟩; cases h2; exact ⟨_, h1, hk⟩
  · rintro ⟨r, h1, hk⟩; exact ⟨r, h, ⟨r, h1, rfl⟩, hk⟩
theorem d7g {xs} : @iop O (.max xs) t h ⟨k⟩ = @b5v (xs.map (evT t)) ⟨fun v => k v h⟩ := by
  simp only [iop, op1, b5v, eff, Option.map_eq_some_iff]
  apply propext; constructor
  · rintro ⟨r, h', ⟨x, h1, h2⟩, hk⟩; cases h2; exact ⟨_, h1, hk⟩
  · rintro ⟨r, h1, hk⟩; exact ⟨r, h, ⟨r, h1, rfl⟩, hk⟩
theorem c6m {a b : Int} {kd kd'} : @b5w [.v (.int kd a), .v (.int kd' b)] ⟨k1⟩ = k1 (.v (.int kd (mn a b))) := by
  simp [b5w, b2z, b4g, mn]
theorem c6k {a b : Int} {kd kd'} : @b5v [.v (.int kd a), .v (.int kd' b)] ⟨k1⟩ = k1 (.v (.int kd (mx a b))) := by
  simp [b5v, b2z, b4f, mx]
theorem c6n {a b c : Int} {kd kd' kd''} : @b5w [.v (.int kd a), .v (.int kd' b), .v (.int kd'' c)] ⟨k1⟩ = k1 (.v (.int kd (mn (mn a b) c))) := by
  simp [b5w, b2z, b4g, mn]
  exact Iff.rfl
theorem c6l {a b c : Int} {kd kd' kd''} : @b5v [.v (.int kd a), .v (.int kd' b), .v (.int kd'' c)] ⟨k1⟩ = k1 (.v (.int kd (mx (mx a b) c))) := by
  simp [b5v, b2z, b4f, mx]
theorem d5l {agg n o x} : b0a O (⟨d, none, .fld agg n o x⟩ :: r) K t h = @iop O (.fld agg n o x) t h ⟨fun v h' => b0a O r K (b0b t d v) h'⟩ := b1f rfl
theorem d6g {agg n o x} : b0a O (⟨d, some (g, b0), .fld agg n o x⟩ :: r) K t h = @b1c (t g) b0 ⟨@iop O (.fld agg n o x) (upd t g (B b0)) h ⟨fun v h' => b0a O r K (b0b (upd t g (B b0)) d v) h'⟩⟩ ⟨b0a O r K (b0b (upd t g (B (!b0))) d U) h⟩ ⟨b0a O r K (b0b t d U) h⟩ := b1g rfl
def c1n (agg : Bool) (n o : Nat) (x : AV) [k : K1 AV] : Prop := match x with | .agg cs => b3a agg n cs o k.k | _ => False
theorem d7a {agg n o x} : @iop O (.fld agg n o x) t h ⟨k⟩ = @c1n agg n o (evT t x) ⟨fun v => k v h⟩ := by
  simp only [iop, op1, c1n, eff]
  generalize evT t x = y
  cases y with
  | agg cs =>
    simp only [b3a, b2k]
    cases agg with
    | true =>
      simp only [if_true]
      apply propext; constructor
      · rintro ⟨r, h', he, hk⟩; split at he
        · rename_i ho; cases he; exact ⟨ho, hk⟩
        · cases he
      · rintro ⟨h1, h2⟩; exact ⟨_, _, by rw [if_pos h1], h2⟩
    | false =>
      simp only [Bool.false_eq_true, if_false, Option.map_eq_some_iff]
      apply propext; constructor
      · rintro ⟨r, h', ⟨x, h1, h2⟩, hk⟩; cases h2; exact ⟨_, h1, hk⟩
      · rintro ⟨v, h1, h2⟩; exact ⟨v, h, ⟨v, h1, rfl⟩, h2⟩
  | _ => simp
theorem c58 {agg n o cs} : @c1n agg n o (.agg cs) ⟨k1⟩ = @b6x agg n cs o ⟨k1⟩ := rfl
end
def b6c (v : AV) (j : Nat) : Bool := match v with | .rs id _ _ => id == j | .rp id _ _ => id == j | _ => false
theorem d0m {h : Heap} {F : Nat → Bool} {j : Nat} (hj : F j = false) : (h.but F).ob j = h.ob j := by simp [Heap.but, hj]
theorem d0l {h : Heap} {F : Nat → Bool} : (h.but F).nx = h.nx := by simp [Heap.but]
theorem g17 {h : Heap} {F : Nat → Bool} {j : Nat} (hj : F j = true) : (h.only F).ob j = h.ob j := by simp [Heap.only, hj]
inductive FzR (h : Heap) : List (List AV) → List (List AV) → Prop
  | nil : FzR h [] []
  | cons {x y : List AV} {xs ys : List (List AV)} (a : FzL h x y) (b : FzR h xs ys) : FzR h (x :: xs) (y :: ys)
attribute [go_sem ↓] d5s d6m d5r d6l d7h d7g d5l d6g d7a c6m c6k c6n c6l c58
attribute [go_sem] c6m c6k c6n c6l c58 d0l d0m
end Go.Nw
namespace Go.Nw
theorem c82 {v : AV} {j : Nat} (hj : ¬ b0l v j) : b6c v j = true := by
  unfold b0l at hj; unfold b6c
  split at hj
  · simpa using hj
  · simp at hj
end Go.Nw
namespace Go.Nw
def sub {α : Type} (l : List α) (a b : Int) : Option (List α) := if 0 ≤ a ∧ a ≤ b ∧ b ≤ l.length then some ((l.take b.toNat).drop a.toNat) else none
def d7r (n : Nat) (x : AV) (lo hi : Option AV) (h : Heap) [k : K2] : Prop := ∃ (r' : AV) (h' : Heap), ((b1k x).bind fun len =>
    (b29 0 lo).bind fun l =>
    (b3d len hi).bind fun r =>
    if l ≤ r then
      match x with
      | .fs sz es => if sz = n then some (.fs sz ((es.take r).drop l), h) else none
      | .rs id lo' _ => (h.ob id).bind fun o => if (l = 0 ∨ l < r) ∧ o.1 = n then some (.rs id (lo' + l) (r - l), h) else none
      | _ => none
    else none) = some (r', h') ∧ k.k r' h'
section
variable {O : Orac} {d : Option Nat} {g : Nat} {b0 : Bool} {r : List XO} {K : Slots → Heap → Prop} {t : Slots} {h : Heap} {k : AV → Heap → Prop}
theorem d5y {n x lo hi} : b0a O (⟨d, none, .slc n x lo hi⟩ :: r) K t h = @iop O (.slc n x lo hi) t h ⟨fun v h' => b0a O r K (b0b t d v) h'⟩ := b1f rfl
theorem d6s {n x lo hi} : b0a O (⟨d, some (g, b0), .slc n x lo hi⟩ :: r) K t h = @b1c (t g) b0 ⟨@iop O (.slc n x lo hi) (upd t g (B b0)) h ⟨fun v h' => b0a O r K (b0b (upd t g (B b0)) d v) h'⟩⟩ ⟨b0a O r K (b0b (upd t g (B (!b0))) d U) h⟩ ⟨b0a O r K (b0b t d U) h⟩ := b1g rfl
theorem d7n {n x lo hi} : @iop O (.slc n x lo hi) t h ⟨k⟩ = @d7r n (evT t x) (lo.map (evT t)) (hi.map (evT t)) h ⟨k⟩ := rfl
end
attribute [go_sem ↓] d5y d6s d7n
attribute [go_sem] Option.map_none
end Go.Nw
namespace Go.Nw
theorem c83 {h : Heap} {v : AV} {sz : Nat} {rows : List (List AV)} {j : Nat} (hv : b1i h v sz rows) (hj : b0l v j) : b6c v j = false := by
  rcases hv with ⟨rfl, _⟩ | ⟨id, rfl, _, _⟩
  · rfl
  · simpa [b6c, b0l] using hj
end Go.Nw
namespace Go.Nw
def b0m (k : IntKind) (a b : Int) : Int := k.wrap (BitVec.ofInt k.bits a &&& BitVec.ofInt k.bits b).toNat
def c3j (k : IntKind) (a b : Int) : Int := k.wrap (BitVec.ofInt k.bits a ||| BitVec.ofInt k.bits b).toNat
def c3l (k : IntKind) (a b : Int) : Int := k.wrap (BitVec.ofInt k.bits a ^^^ BitVec.ofInt k.bits b).toNat
def c3g (k : IntKind) (a b : Int) : Int := k.wrap (BitVec.ofInt k.bits a &&& ~~~(BitVec.ofInt k.bits b)).toNat
def c3i (k : IntKind) (a : Int) : Int := k.wrap (BitVec.ofInt k.bits (if k.signed then -1 else k.max) ^^^ BitVec.ofInt k.bits a).toNat
abbrev b28 (a b : Int) : Int := b0m .i64 a b
def b9u (k : IntKind) (a b : Int) : Int := k.wrap (a * 2 ^ (Nat.min b.toNat k.bits))
def b47 (k : IntKind) (a b : Int) : Int := a.fdiv (2 ^ (Nat.min b.toNat k.bits))
def shl (k : IntKind) (a b : Int) : Option Int := if b < 0 then none else some (b9u k a b)
def shr (k : IntKind) (a b : Int) : Option Int := if b < 0 then none else some (b47 k a b)
def quo (k : IntKind) (a b : Int) : Option Int := if b = 0 then none else some (k.wrap (a.tdiv b))
def rem (a b : Int) : Option Int := if b = 0 then none else some (a.tmod b)
theorem g4l {k : IntKind} {a b : Int} (h : 0 ≤ b) : shl k a b = some (b9u k a b) := by unfold shl; rw [if_neg (by omega)]
theorem c8r {k : IntKind} {a b : Int} (h : 0 ≤ b) : shr k a b = some (b47 k a b) := by unfold shr; rw [if_neg (by omega)]
section
variable {k : AV → Prop} {e : EqK} {kd kd' : IntKind} {a b : Int}
theorem c47 : @b1h .and e (.v (.int kd a)) (.v (.int kd b)) ⟨k⟩ = k (.v (.int kd (b0m kd a b))) := b2o (by simp [b1z, b18, b0m])
theorem c5q : @b1h .or e (.v (.int kd a)) (.v (.int kd b)) ⟨k⟩ = k (.v (.int kd (c3j kd a b))) := b2o (by simp [b1z, b18, c3j])
theorem c5t : @b1h .xor e (.v (.int kd a)) (.v (.int kd b)) ⟨k⟩ = k (.v (.int kd (c3l kd a b))) := b2o (by simp [b1z, b18, c3l])
theorem c5a : @b1h .andNot e (.v (.int kd a)) (.v (.int kd b)) ⟨k⟩ = k (.v (.int kd (c3g kd a b))) := b2o (by simp [b1z, b18, c3g])
theorem c5r {r : Int} (h : shl kd a b = some r) : @b1h .shl e (.v (.int kd a)) (.v (.int kd' b)) ⟨k⟩ = k (.v (.int kd r)) := by
  unfold shl at h; split at h
  · cases h
  · rename_i hb; cases h
    show b03 _ _ _ _ _ = _
    simp [b03, b10, b1z, b6a, hb, b9u]
theorem b3e {r : Int} (h : shr kd a b = some r) : @b1h .shr e (.v (.int kd a)) (.v (.int kd' b)) ⟨k⟩ = k (.v (.int kd r)) := by
  unfold shr at h; split at h
  · cases h
  · rename_i hb; cases h
    show b03 _ _ _ _ _ = _
    simp [b03, b10, b1z, b6a, hb, b47]
theorem c62 : @iun .xor (.v (.int kd a)) ⟨k⟩ = k (.v (.int kd (c3i kd a))) := by
  show unK _ _ _ = _
  simp [unK, b4l, c3i]
end
def c1l (kd : IntKind) (x : AV) [k : K1 AV] : Prop := match x with | .v (.int _ n) => k.k (.v (.int kd (kd.wrap n))) | _ => False
section
variable {O : Orac} {d : Option Nat} {g : Nat} {b0 : Bool} {r : List XO} {K : Slots → Heap → Prop} {t : Slots} {h : Heap} {k : AV → Heap → Prop} {k1 : AV → Prop}
theorem d5j {kd x} : b0a O (⟨d, none, .cvtI kd x⟩ :: r) K t h = @iop O (.cvtI kd x) t h ⟨fun v h' => b0a O r K (b0b t d v) h'⟩ := b1f rfl
theorem d6e {kd x} : b0a O (⟨d, some (g, b0), .cvtI kd x⟩ :: r) K t h = @b1c (t g) b0 ⟨@iop O (.cvtI kd x) (upd t g (B b0)) h ⟨fun v h' => b0a O r K (b0b (upd t g (B b0)) d v) h'⟩⟩ ⟨b0a O r K (b0b (upd t g (B (!b0))) d U) h⟩ ⟨b0a O r K (b0b t d U) h⟩ := b1g rfl
theorem d68 {kd x} : @iop O (.cvtI kd x) t h ⟨k⟩ = @c1l kd (evT t x) ⟨fun v => k v h⟩ := by
  simp only [iop, op1, c1l, eff]
  generalize evT t x = y
  cases y with
  | v z =>
    cases z with
    | int k' n => exact ex1
    | _ => exact ex0
  | _ => exact ex0
theorem c54 {kd kd' : IntKind} {n : Int} : @c1l kd (.v (.int kd' n)) ⟨k1⟩ = k1 (.v (.int kd (kd.wrap n))) := rfl
end
attribute [go_sem ↓] d5j d6e d68 c54 c47 c5q c5t c5a c62
attribute [go_sem] c54 c47 c5q c5t c5a c62
end Go.Nw
namespace Go.Nw
theorem c5c {k : AV → Prop} {a b c d : Int} : @b1h .eql (.flat [.i, .i]) (.agg [I a, I b]) (.agg [I c, I d]) ⟨k⟩ = k (B (decide (a = c) && decide (b = d))) := by
  show b03 _ _ _ _ _ = _
  by_cases h1 : a = c <;> by_cases h2 : b = d <;> simp [b03, b10, b1m, b3c, h1, h2]
theorem c5k {k : AV → Prop} {a b c d : Int} : @b1h .neq (.flat [.i, .i]) (.agg [I a, I b]) (.agg [I c, I d]) ⟨k⟩ = k (B (!(decide (a = c) && decide (b = d)))) := by
  show b03 _ _ _ _ _ = _
  by_cases h1 : a = c <;> by_cases h2 : b = d <;> simp [b03, b10, b1m, b3c, h1, h2]
theorem c5d {k : AV → Prop} {a b c d x y : Int} : @b1h .eql (.flat [.i, .i, .i]) (.agg [I a, I b, I x]) (.agg [I c, I d, I y]) ⟨k⟩ = k (B (decide (a = c) && decide (b = d) && decide (x = y))) := by
  show b03 _ _ _ _ _ = _
  by_cases h1 : a = c <;> by_cases h2 : b = d <;> by_cases h3 : x = y <;> simp [b03, b10, b1m, b3c, h1, h2, h3]
theorem c5l {k : AV → Prop} {a b c d x y : Int} : @b1h .neq (.flat [.i, .i, .i]) (.agg [I a, I b, I x]) (.agg [I c, I d, I y]) ⟨k⟩ = k (B (!(decide (a = c) && decide (b = d) && decide (x = y)))) := by
  show b03 _ _ _ _ _ = _
  by_cases h1 : a = c <;> by_cases h2 : b = d <;> by_cases h3 : x = y <;> simp [b03, b10, b1m, b3c, h1, h2, h3]
theorem c5m {k : AV → Prop} : @b1h .eql .slice (.v (.slice none 0 0)) (.v (.slice none 0 0)) ⟨k⟩ = k (B true) := by
  show b03 _ _ _ _ _ = _
  simp [b03, b10, b1m, b5x]
theorem c5o {k : AV → Prop} : @b1h .neq .slice (.v (.slice none 0 0)) (.v (.slice none 0 0)) ⟨k⟩ = k (B false) := by
  show b03 _ _ _ _ _ = _
  simp [b03, b10, b1m, b5x]
theorem c5n {k : AV → Prop} {a b c : Nat} : @b1h .eql .slice (.rs a b c) (.v (.slice none 0 0)) ⟨k⟩ = k (B false) := by
  show b03 _ _ _ _ _ = _
  simp [b03, b10, b1m, b5x]
theorem c5p {k : AV → Prop} {a b c : Nat} : @b1h .neq .slice (.rs a b c) (.v (.slice none 0 0)) ⟨k⟩ = k (B true) := by
  show b03 _ _ _ _ _ = _
  simp [b03, b10, b1m, b5x]
def b4n {α : Type} (v : AV) (sz : Nat) (f : α → List AV) (o : Option (List α)) : Prop := match o with
  | none => v = .v (.slice none 0 0)
  | some l => v = .fs sz (List.map f l)
theorem c4y {α : Type} {f : α → List AV} {h : Heap} {v : AV} {n : Nat} {o : Option (List α)} (hv : b4n v n f o) (hf : ∀ a, ∀ c ∈ f a, Frz c) : Fz h v (.fs n (List.map f (o.getD []))) := by
  cases o with
  | none => cases hv; exact .nil n
  | some l => cases hv; exact .refl _ (b1o fun a _ => hf a)
attribute [go_sem ↓] c5c c5k c5d c5l c5m c5o c5n c5p
attribute [go_sem] c5c c5k c5d c5l c5m c5o c5n c5p
theorem d3r {α : Type} {f : α → List AV} {v : AV} {n : Nat} {o : Option (List α)} (hv : b4n v n f o) (hf : ∀ a, ∀ c ∈ f a, Frz c) : Frz v := by
  cases o with
  | none => cases hv; exact .v _
  | some l => cases hv; exact b1o fun a _ => hf a
theorem d51 {O : Orac} {f : String} {as as' : List AV} {r : AV} {h : Heap} {k : AV → Heap → Prop} (hz : FzL h as as') (ha : ∀ a ∈ as, Frz a) (hf : Fn O f as' r) (hk : k r h) : @c1k O f as h ⟨k⟩ :=
  ⟨r, h, ⟨as', r, [], [], hz, hf.o, .inl ha, .frz r hf.r, rfl, fun k sz es hh => by simp at hh, rfl⟩, hk⟩
attribute [go_sem] beq_self_eq_true eq_self
theorem nxa {a b : Nat} : (nxs a = nxs b) = (a = b) := by simp [nxs]
theorem nxb {a b : Nat} : (nxs a < nxs b) = (a < b) := by simp [nxs]
theorem g0l {n : Nat} : (n < nxs n) = True := by simp only [nxs, eq_iff_iff, iff_true]; omega
theorem g01 {i n : Nat} (h : i < n) : (i < nxs n) = True := by simp only [nxs, eq_iff_iff, iff_true]; omega
theorem d8p {n : Nat} : (n = nxs n) = False := by simp only [nxs, eq_iff_iff, iff_false]; omega
theorem d85 {n : Nat} : (nxs n = n) = False := by simp only [nxs, eq_iff_iff, iff_false]; omega
theorem d9m {i n : Nat} (h : i < n) : (i = nxs n) = False := by simp only [nxs, eq_iff_iff, iff_false]; omega
theorem d93 {i n : Nat} (h : i < n) : (nxs n = i) = False := by simp only [nxs, eq_iff_iff, iff_false]; omega
theorem g0t {n : Nat} : (n < nxs (nxs n)) = True := by simp only [nxs, eq_iff_iff, iff_true]; omega
theorem g09 {i n : Nat} (h : i < n) : (i < nxs (nxs n)) = True := by simp only [nxs, eq_iff_iff, iff_true]; omega
theorem d8x {n : Nat} : (n = nxs (nxs n)) = False := by simp only [nxs, eq_iff_iff, iff_false]; omega
theorem d9d {n : Nat} : (nxs (nxs n) = n) = False := by simp only [nxs, eq_iff_iff, iff_false]; omega
theorem d9u {i n : Nat} (h : i < n) : (i = nxs (nxs n)) = False := by simp only [nxs, eq_iff_iff, iff_false]; omega
theorem g0b {i n : Nat} (h : i < n) : (nxs (nxs n) = i) = False := by simp only [nxs, eq_iff_iff, iff_false]; omega
theorem g0u {n : Nat} : (n < nxs (nxs (nxs n))) = True := by simp only [nxs, eq_iff_iff, iff_true]; omega
theorem g1a {i n : Nat} (h : i < n) : (i < nxs (nxs (nxs n))) = True := by simp only [nxs, eq_iff_iff, iff_true]; omega
theorem d8y {n : Nat} : (n = nxs (nxs (nxs n))) = False := by simp only [nxs, eq_iff_iff, iff_false]; omega
theorem d9e {n : Nat} : (nxs (nxs (nxs n)) = n) = False := by simp only [nxs, eq_iff_iff, iff_false]; omega
theorem d9v {i n : Nat} (h : i < n) : (i = nxs (nxs (nxs n))) = False := by simp only [nxs, eq_iff_iff, iff_false]; omega
theorem g0c {i n : Nat} (h : i < n) : (nxs (nxs (nxs n)) = i) = False := by simp only [nxs, eq_iff_iff, iff_false]; omega
theorem g0v {n : Nat} : (n < nxs (nxs (nxs (nxs n)))) = True := by simp only [nxs, eq_iff_iff, iff_true]; omega
theorem g1b {i n : Nat} (h : i < n) : (i < nxs (nxs (nxs (nxs n)))) = True := by simp only [nxs, eq_iff_iff, iff_true]; omega
theorem d8z {n : Nat} : (n = nxs (nxs (nxs (nxs n)))) = False := by simp only [nxs, eq_iff_iff, iff_false]; omega
theorem d9f {n : Nat} : (nxs (nxs (nxs (nxs n))) = n) = False := by simp only [nxs, eq_iff_iff, iff_false]; omega
theorem d9w {i n : Nat} (h : i < n) : (i = nxs (nxs (nxs (nxs n)))) = False := by simp only [nxs, eq_iff_iff, iff_false]; omega
theorem g0d {i n : Nat} (h : i < n) : (nxs (nxs (nxs (nxs n))) = i) = False := by simp only [nxs, eq_iff_iff, iff_false]; omega
theorem g0w {n : Nat} : (n < nxs (nxs (nxs (nxs (nxs n))))) = True := by simp only [nxs, eq_iff_iff, iff_true]; omega
theorem g1c {i n : Nat} (h : i < n) : (i < nxs (nxs (nxs (nxs (nxs n))))) = True := by simp only [nxs, eq_iff_iff, iff_true]; omega
theorem d80 {n : Nat} : (n = nxs (nxs (nxs (nxs (nxs n))))) = False := by simp only [nxs, eq_iff_iff, iff_false]; omega
theorem d9g {n : Nat} : (nxs (nxs (nxs (nxs (nxs n)))) = n) = False := by simp only [nxs, eq_iff_iff, iff_false]; omega
theorem d9x {i n : Nat} (h : i < n) : (i = nxs (nxs (nxs (nxs (nxs n))))) = False := by simp only [nxs, eq_iff_iff, iff_false]; omega
theorem g0e {i n : Nat} (h : i < n) : (nxs (nxs (nxs (nxs (nxs n)))) = i) = False := by simp only [nxs, eq_iff_iff, iff_false]; omega
theorem g0x {n : Nat} : (n < nxs (nxs (nxs (nxs (nxs (nxs n)))))) = True := by simp only [nxs, eq_iff_iff, iff_true]; omega
theorem g1d {i n : Nat} (h : i < n) : (i < nxs (nxs (nxs (nxs (nxs (nxs n)))))) = True := by simp only [nxs, eq_iff_iff, iff_true]; omega
theorem d81 {n : Nat} : (n = nxs (nxs (nxs (nxs (nxs (nxs n)))))) = False := by simp only [nxs, eq_iff_iff, iff_false]; omega
theorem d9h {n : Nat} : (nxs (nxs (nxs (nxs (nxs (nxs n))))) = n) = False := by simp only [nxs, eq_iff_iff, iff_false]; omega
theorem d9y {i n : Nat} (h : i < n) : (i = nxs (nxs (nxs (nxs (nxs (nxs n)))))) = False := by simp only [nxs, eq_iff_iff, iff_false]; omega
theorem g0f {i n : Nat} (h : i < n) : (nxs (nxs (nxs (nxs (nxs (nxs n))))) = i) = False := by simp only [nxs, eq_iff_iff, iff_false]; omega
theorem g0y {n : Nat} : (n < nxs (nxs (nxs (nxs (nxs (nxs (nxs n))))))) = True := by simp only [nxs, eq_iff_iff, iff_true]; omega
theorem g1e {i n : Nat} (h : i < n) : (i < nxs (nxs (nxs (nxs (nxs (nxs (nxs n))))))) = True := by simp only [nxs, eq_iff_iff, iff_true]; omega
theorem d82 {n : Nat} : (n = nxs (nxs (nxs (nxs (nxs (nxs (nxs n))))))) = False := by simp only [nxs, eq_iff_iff, iff_false]; omega
theorem d9i {n : Nat} : (nxs (nxs (nxs (nxs (nxs (nxs (nxs n)))))) = n) = False := by simp only [nxs, eq_iff_iff, iff_false]; omega
theorem d9z {i n : Nat} (h : i < n) : (i = nxs (nxs (nxs (nxs (nxs (nxs (nxs n))))))) = False := by simp only [nxs, eq_iff_iff, iff_false]; omega
theorem g0g {i n : Nat} (h : i < n) : (nxs (nxs (nxs (nxs (nxs (nxs (nxs n)))))) = i) = False := by simp only [nxs, eq_iff_iff, iff_false]; omega
theorem g0z {n : Nat} : (n < nxs (nxs (nxs (nxs (nxs (nxs (nxs (nxs n)))))))) = True := by simp only [nxs, eq_iff_iff, iff_true]; omega
theorem g1f {i n : Nat} (h : i < n) : (i < nxs (nxs (nxs (nxs (nxs (nxs (nxs (nxs n)))))))) = True := by simp only [nxs, eq_iff_iff, iff_true]; omega
theorem d83 {n : Nat} : (n = nxs (nxs (nxs (nxs (nxs (nxs (nxs (nxs n)))))))) = False := by simp only [nxs, eq_iff_iff, iff_false]; omega
theorem d9j {n : Nat} : (nxs (nxs (nxs (nxs (nxs (nxs (nxs (nxs n))))))) = n) = False := by simp only [nxs, eq_iff_iff, iff_false]; omega
theorem d90 {i n : Nat} (h : i < n) : (i = nxs (nxs (nxs (nxs (nxs (nxs (nxs (nxs n)))))))) = False := by simp only [nxs, eq_iff_iff, iff_false]; omega
theorem g0h {i n : Nat} (h : i < n) : (nxs (nxs (nxs (nxs (nxs (nxs (nxs (nxs n))))))) = i) = False := by simp only [nxs, eq_iff_iff, iff_false]; omega
theorem g00 {n : Nat} : (n < nxs (nxs (nxs (nxs (nxs (nxs (nxs (nxs (nxs n))))))))) = True := by simp only [nxs, eq_iff_iff, iff_true]; omega
theorem g1g {i n : Nat} (h : i < n) : (i < nxs (nxs (nxs (nxs (nxs (nxs (nxs (nxs (nxs n))))))))) = True := by simp only [nxs, eq_iff_iff, iff_true]; omega
theorem d84 {n : Nat} : (n = nxs (nxs (nxs (nxs (nxs (nxs (nxs (nxs (nxs n))))))))) = False := by simp only [nxs, eq_iff_iff, iff_false]; omega
theorem d9k {n : Nat} : (nxs (nxs (nxs (nxs (nxs (nxs (nxs (nxs (nxs n)))))))) = n) = False := by simp only [nxs, eq_iff_iff, iff_false]; omega
theorem d91 {i n : Nat} (h : i < n) : (i = nxs (nxs (nxs (nxs (nxs (nxs (nxs (nxs (nxs n))))))))) = False := by simp only [nxs, eq_iff_iff, iff_false]; omega
theorem g0i {i n : Nat} (h : i < n) : (nxs (nxs (nxs (nxs (nxs (nxs (nxs (nxs (nxs n)))))))) = i) = False := by simp only [nxs, eq_iff_iff, iff_false]; omega
theorem g0m {n : Nat} : (n < nxs (nxs (nxs (nxs (nxs (nxs (nxs (nxs (nxs (nxs n)))))))))) = True := by simp only [nxs, eq_iff_iff, iff_true]; omega
theorem g02 {i n : Nat} (h : i < n) : (i < nxs (nxs (nxs (nxs (nxs (nxs (nxs (nxs (nxs (nxs n)))))))))) = True := by simp only [nxs, eq_iff_iff, iff_true]; omega
theorem d8q {n : Nat} : (n = nxs (nxs (nxs (nxs (nxs (nxs (nxs (nxs (nxs (nxs n)))))))))) = False := by simp only [nxs, eq_iff_iff, iff_false]; omega
theorem d86 {n : Nat} : (nxs (nxs (nxs (nxs (nxs (nxs (nxs (nxs (nxs (nxs n))))))))) = n) = False := by simp only [nxs, eq_iff_iff, iff_false]; omega
theorem d9n {i n : Nat} (h : i < n) : (i = nxs (nxs (nxs (nxs (nxs (nxs (nxs (nxs (nxs (nxs n)))))))))) = False := by simp only [nxs, eq_iff_iff, iff_false]; omega
theorem d94 {i n : Nat} (h : i < n) : (nxs (nxs (nxs (nxs (nxs (nxs (nxs (nxs (nxs (nxs n))))))))) = i) = False := by simp only [nxs, eq_iff_iff, iff_false]; omega
theorem g0n {n : Nat} : (n < nxs (nxs (nxs (nxs (nxs (nxs (nxs (nxs (nxs (nxs (nxs n))))))))))) = True := by simp only [nxs, eq_iff_iff, iff_true]; omega
theorem g03 {i n : Nat} (h : i < n) : (i < nxs (nxs (nxs (nxs (nxs (nxs (nxs (nxs (nxs (nxs (nxs n))))))))))) = True := by simp only [nxs, eq_iff_iff, iff_true]; omega
theorem d8r {n : Nat} : (n = nxs (nxs (nxs (nxs (nxs (nxs (nxs (nxs (nxs (nxs (nxs n))))))))))) = False := by simp only [nxs, eq_iff_iff, iff_false]; omega
theorem d87 {n : Nat} : (nxs (nxs (nxs (nxs (nxs (nxs (nxs (nxs (nxs (nxs (nxs n)))))))))) = n) = False := by simp only [nxs, eq_iff_iff, iff_false]; omega
theorem d9o {i n : Nat} (h : i < n) : (i = nxs (nxs (nxs (nxs (nxs (nxs (nxs (nxs (nxs (nxs (nxs n))))))))))) = False := by simp only [nxs, eq_iff_iff, iff_false]; omega
theorem d95 {i n : Nat} (h : i < n) : (nxs (nxs (nxs (nxs (nxs (nxs (nxs (nxs (nxs (nxs (nxs n)))))))))) = i) = False := by simp only [nxs, eq_iff_iff, iff_false]; omega
theorem g0o {n : Nat} : (n < nxs (nxs (nxs (nxs (nxs (nxs (nxs (nxs (nxs (nxs (nxs (nxs n)))))))))))) = True := by simp only [nxs, eq_iff_iff, iff_true]; omega
theorem g04 {i n : Nat} (h : i < n) : (i < nxs (nxs (nxs (nxs (nxs (nxs (nxs (nxs (nxs (nxs (nxs (nxs n)))))))))))) = True := by simp only [nxs, eq_iff_iff, iff_true]; omega
theorem d8s {n : Nat} : (n = nxs (nxs (nxs (nxs (nxs (nxs (nxs (nxs (nxs (nxs (nxs (nxs n)))))))))))) = False := by simp only [nxs, eq_iff_iff, iff_false]; omega
theorem d88 {n : Nat} : (nxs (nxs (nxs (nxs (nxs (nxs (nxs (nxs (nxs (nxs (nxs (nxs n))))))))))) = n) = False := by simp only [nxs, eq_iff_iff, iff_false]; omega
theorem d9p {i n : Nat} (h : i < n) : (i = nxs (nxs (nxs (nxs (nxs (nxs (nxs (nxs (nxs (nxs (nxs (nxs n)))))))))))) = False := by simp only [nxs, eq_iff_iff, iff_false]; omega
theorem d96 {i n : Nat} (h : i < n) : (nxs (nxs (nxs (nxs (nxs (nxs (nxs (nxs (nxs (nxs (nxs (nxs n))))))))))) = i) = False := by simp only [nxs, eq_iff_iff, iff_false]; omega
theorem g0p {n : Nat} : (n < nxs (nxs (nxs (nxs (nxs (nxs (nxs (nxs (nxs (nxs (nxs (nxs (nxs n))))))))))))) = True := by simp only [nxs, eq_iff_iff, iff_true]; omega
theorem g05 {i n : Nat} (h : i < n) : (i < nxs (nxs (nxs (nxs (nxs (nxs (nxs (nxs (nxs (nxs (nxs (nxs (nxs n))))))))))))) = True := by simp only [nxs, eq_iff_iff, iff_true]; omega
theorem d8t {n : Nat} : (n = nxs (nxs (nxs (nxs (nxs (nxs (nxs (nxs (nxs (nxs (nxs (nxs (nxs n))))))))))))) = False := by simp only [nxs, eq_iff_iff, iff_false]; omega
theorem d89 {n : Nat} : (nxs (nxs (nxs (nxs (nxs (nxs (nxs (nxs (nxs (nxs (nxs (nxs (nxs n)))))))))))) = n) = False := by simp only [nxs, eq_iff_iff, iff_false]; omega
theorem d9q {i n : Nat} (h : i < n) : (i = nxs (nxs (nxs (nxs (nxs (nxs (nxs (nxs (nxs (nxs (nxs (nxs (nxs n))))))))))))) = False := by simp only [nxs, eq_iff_iff, iff_false]; omega
theorem d97 {i n : Nat} (h : i < n) : (nxs (nxs (nxs (nxs (nxs (nxs (nxs (nxs (nxs (nxs (nxs (nxs (nxs n)))))))))))) = i) = False := by simp only [nxs, eq_iff_iff, iff_false]; omega
theorem g0q {n : Nat} : (n < nxs (nxs (nxs (nxs (nxs (nxs (nxs (nxs (nxs (nxs (nxs (nxs (nxs (nxs n)))))))))))))) = True := by simp only [nxs, eq_iff_iff, iff_true]; omega
theorem g06 {i n : Nat} (h : i < n) : (i < nxs (nxs (nxs (nxs (nxs (nxs (nxs (nxs (nxs (nxs (nxs (nxs (nxs (nxs n)))))))))))))) = True := by simp only [nxs, eq_iff_iff, iff_true]; omega
theorem d8u {n : Nat} : (n = nxs (nxs (nxs (nxs (nxs (nxs (nxs (nxs (nxs (nxs (nxs (nxs (nxs (nxs n)))))))))))))) = False := by simp only [nxs, eq_iff_iff, iff_false]; omega
theorem d9a {n : Nat} : (nxs (nxs (nxs (nxs (nxs (nxs (nxs (nxs (nxs (nxs (nxs (nxs (nxs (nxs n))))))))))))) = n) = False := by simp only [nxs, eq_iff_iff, iff_false]; omega
theorem d9r {i n : Nat} (h : i < n) : (i = nxs (nxs (nxs (nxs (nxs (nxs (nxs (nxs (nxs (nxs (nxs (nxs (nxs (nxs n)))))))))))))) = False := by simp only [nxs, eq_iff_iff, iff_false]; omega
theorem d98 {i n : Nat} (h : i < n) : (nxs (nxs (nxs (nxs (nxs (nxs (nxs (nxs (nxs (nxs (nxs (nxs (nxs (nxs n))))))))))))) = i) = False := by simp only [nxs, eq_iff_iff, iff_false]; omega
theorem g0r {n : Nat} : (n < nxs (nxs (nxs (nxs (nxs (nxs (nxs (nxs (nxs (nxs (nxs (nxs (nxs (nxs (nxs n))))))))))))))) = True := by simp only [nxs, eq_iff_iff, iff_true]; omega
theorem g07 {i n : Nat} (h : i < n) : (i < nxs (nxs (nxs (nxs (nxs (nxs (nxs (nxs (nxs (nxs (nxs (nxs (nxs (nxs (nxs n))))))))))))))) = True := by simp only [nxs, eq_iff_iff, iff_true]; omega
theorem d8v {n : Nat} : (n = nxs (nxs (nxs (nxs (nxs (nxs (nxs (nxs (nxs (nxs (nxs (nxs (nxs (nxs (nxs n))))))))))))))) = False := by simp only [nxs, eq_iff_iff, iff_false]; omega
theorem d9b {n : Nat} : (nxs (nxs (nxs (nxs (nxs (nxs (nxs (nxs (nxs (nxs (nxs (nxs (nxs (nxs (nxs n)))))))))))))) = n) = False := by simp only [nxs, eq_iff_iff, iff_false]; omega
theorem d9s {i n : Nat} (h : i < n) : (i = nxs (nxs (nxs (nxs (nxs (nxs (nxs (nxs (nxs (nxs (nxs (nxs (nxs (nxs (nxs n))))))))))))))) = False := by simp only [nxs, eq_iff_iff, iff_false]; omega
theorem d99 {i n : Nat} (h : i < n) : (nxs (nxs (nxs (nxs (nxs (nxs (nxs (nxs (nxs (nxs (nxs (nxs (nxs (nxs (nxs n)))))))))))))) = i) = False := by simp only [nxs, eq_iff_iff, iff_false]; omega
theorem g0s {n : Nat} : (n < nxs (nxs (nxs (nxs (nxs (nxs (nxs (nxs (nxs (nxs (nxs (nxs (nxs (nxs (nxs (nxs n)))))))))))))))) = True := by simp only [nxs, eq_iff_iff, iff_true]; omega
theorem g08 {i n : Nat} (h : i < n) : (i < nxs (nxs (nxs (nxs (nxs (nxs (nxs (nxs (nxs (nxs (nxs (nxs (nxs (nxs (nxs (nxs n)))))))))))))))) = True := by simp only [nxs, eq_iff_iff, iff_true]; omega
theorem d8w {n : Nat} : (n = nxs (nxs (nxs (nxs (nxs (nxs (nxs (nxs (nxs (nxs (nxs (nxs (nxs (nxs (nxs (nxs n)))))))))))))))) = False := by simp only [nxs, eq_iff_iff, iff_false]; omega
theorem d9c {n : Nat} : (nxs (nxs (nxs (nxs (nxs (nxs (nxs (nxs (nxs (nxs (nxs (nxs (nxs (nxs (nxs (nxs n))))))))))))))) = n) = False := by simp only [nxs, eq_iff_iff, iff_false]; omega
theorem d9t {i n : Nat} (h : i < n) : (i = nxs (nxs (nxs (nxs (nxs (nxs (nxs (nxs (nxs (nxs (nxs (nxs (nxs (nxs (nxs (nxs n)))))))))))))))) = False := by simp only [nxs, eq_iff_iff, iff_false]; omega
theorem g0a {i n : Nat} (h : i < n) : (nxs (nxs (nxs (nxs (nxs (nxs (nxs (nxs (nxs (nxs (nxs (nxs (nxs (nxs (nxs (nxs n))))))))))))))) = i) = False := by simp only [nxs, eq_iff_iff, iff_false]; omega
theorem d9l {i : Nat} {h : Heap} (hl : i < h.nx) : (i = h.nx) = False := by simp only [eq_iff_iff, iff_false]; omega
theorem d92 {i : Nat} {h : Heap} (hl : i < h.nx) : (h.nx = i) = False := by simp only [eq_iff_iff, iff_false]; omega
attribute [go_sem] nxa nxb g0l g01 d8p d85 d9m d93 g0t g09 d8x d9d d9u g0b g0u g1a d8y d9e d9v g0c g0v g1b d8z d9f d9w g0d g0w g1c d80 d9g d9x g0e g0x g1d d81 d9h d9y g0f g0y g1e d82 d9i d9z g0g g0z g1f d83 d9j d90 g0h g00 g1g d84 d9k d91 g0i g0m g02 d8q d86 d9n d94 g0n g03 d8r d87 d9o d95 g0o g04 d8s d88 d9p d96 g0p g05 d8t d89 d9q d97 g0q g06 d8u d9a d9r d98 g0r g07 d8v d9b d9s d99 g0s g08 d8w d9c d9t g0a d9l d92
end Go.Nw
