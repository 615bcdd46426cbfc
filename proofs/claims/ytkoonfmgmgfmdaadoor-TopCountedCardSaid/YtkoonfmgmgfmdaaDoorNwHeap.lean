/- Own objects: rules for what makes, reads, writes and hands them over. -/
import Derived.Test.YtkoonfmgmgfmdaaDoorNwModel
set_option linter.all false
set_option linter.unusedVariables false
set_option linter.unusedSimpArgs false
set_option linter.unusedSectionVars false
namespace Go.Nw
theorem d1c {h : Heap} {o : Ob} {i : Nat} (hl : i < h.nx) : (h.new o).ob i = h.ob i := by
  simp only [Heap.new]; rw [if_neg (by omega)]
theorem d1b {h : Heap} {o : Ob} {i : Nat} (hl : i = h.nx) : (h.new o).ob i = some o := by
  simp only [Heap.new]; rw [if_pos hl]
theorem d2a {h : Heap} {o : Option Ob} {i j : Nat} (hl : ¬ i = j) : (h.upd j o).ob i = h.ob i := by
  simp only [Heap.upd]; rw [if_neg hl]
theorem j95 {h : Heap} {o : Option Ob} {i j : Nat} (hl : i = j) : (h.upd j o).ob i = o := by
  simp only [Heap.upd]; rw [if_pos hl]
theorem d41 {p : Prop} : @b4r True ⟨p⟩ = p := by simp [b4r]
theorem b0q {α : Type} {f : α → List AV} {l : List α} {i : Int} {x : α} {sz : Nat} {k : Nat → List (List AV) → List AV → Prop} (hx : get l i = some x) :
    @c53 (some (sz, List.map f l)) i.toNat ⟨k⟩ = k sz (List.map f l) (f x) := by
  show b7r _ _ _ = _
  simp only [d8x, List.getElem?_map, b5g hx, Option.map_some, Option.some.injEq]
  apply propext; constructor
  · rintro ⟨_, rfl, hk⟩; exact hk
  · exact fun hk => ⟨_, rfl, hk⟩
theorem j89 {l : List Int} {n : Nat} {v : Int} : (List.map eI l).set n [I v] = List.map eI (l.set n v) := by rw [List.map_set]; rfl
theorem j88 {l : List Bool} {n : Nat} {v : Bool} : (List.map eB l).set n [B v] = List.map eB (l.set n v) := by rw [List.map_set]; rfl
def mks {α : Type} (b : Nat) (n : Int) (z : α) : Option (List α) := if 0 ≤ n ∧ n * b ≤ 2 ^ 47 ∧ n < 2 ^ 63 then some (List.replicate n.toNat z) else none
theorem d07 {α : Type} {b : Nat} {n : Int} {z : α} {l : List α} (h : mks b n z = some l) : 0 ≤ n ∧ n * b ≤ 2 ^ 47 ∧ n < 2 ^ 63 ∧ l = List.replicate n.toNat z := by
  unfold mks at h; split at h
  · rename_i hc; cases h; exact ⟨hc.1, hc.2.1, hc.2.2, rfl⟩
  · cases h
theorem d7q {α : Type} {b : Nat} {n : Int} {z : α} (h0 : 0 ≤ n) (h1 : n * b ≤ 2 ^ 47) (h2 : n < 2 ^ 63) : mks b n z = some (List.replicate n.toNat z) := by
  unfold mks; rw [if_pos ⟨h0, h1, h2⟩]
def ap {α : Type} (b : Nat) (l m : List α) : Option (List α) := if (l.length + m.length) * b ≤ 2 ^ 40 then some (l ++ m) else none
theorem c4f {α : Type} {b : Nat} {l m r : List α} (h : ap b l m = some r) : (l.length + m.length) * b ≤ 2 ^ 40 ∧ r = l ++ m := by
  unfold ap at h; split at h
  · rename_i hc; cases h; exact ⟨hc, rfl⟩
  · cases h
theorem b50 {α : Type} {b : Nat} {l m : List α} (h : (l.length + m.length) * b ≤ 2 ^ 40) : ap b l m = some (l ++ m) := by
  unfold ap; rw [if_pos h]
def c5x (sz : Nat) (zs : List Value) (b : Nat) (l c : AV) (h : Heap) [k : K2] : Prop := ∃ r h', eff (.mksl sz zs b (.t 0) (.t 1)) (evT fun i => if i = 0 then l else c) h = some (r, h') ∧ k.k r h'
def c2o (sz b : Nat) (s x : AV) (h : Heap) [k : K2] : Prop := ∃ r h', eff (.app sz b (.t 0) (.t 1)) (evT fun i => if i = 0 then s else x) h = some (r, h') ∧ k.k r h'
def c9v (sz : Nat) (vs : List AV) (h : Heap) [k : K2] : Prop := (vs.all fun x => b2d x && (cellsOf x).length == sz) = true ∧ k.k (.rs h.nx 0 vs.length) (h.new (sz, vs.map cellsOf))
section
variable {O : Orac} {d : Option Nat} {g : Nat} {b0 : Bool} {r : List XO} {K : Slots → Heap → Prop} {t : Slots} {h : Heap} {k : AV → Heap → Prop}
theorem g9f {sz zs b l c} : b0d O (⟨d, none, .mksl sz zs b l c⟩ :: r) K t h = @iop O (.mksl sz zs b l c) t h ⟨fun v h' => b0d O r K (b0l t d v) h'⟩ := b2y rfl
theorem g99 {sz zs b l c} : b0d O (⟨d, some (g, b0), .mksl sz zs b l c⟩ :: r) K t h = @b2t (t g) b0 ⟨@iop O (.mksl sz zs b l c) (upd t g (B b0)) h ⟨fun v h' => b0d O r K (b0l (upd t g (B b0)) d v) h'⟩⟩ ⟨b0d O r K (b0l (upd t g (B (!b0))) d U) h⟩ ⟨b0d O r K (b0l t d U) h⟩ := b20 rfl
theorem g8v {sz b s x} : b0d O (⟨d, none, .app sz b s x⟩ :: r) K t h = @iop O (.app sz b s x) t h ⟨fun v h' => b0d O r K (b0l t d v) h'⟩ := b2y rfl
theorem g9r {sz b s x} : b0d O (⟨d, some (g, b0), .app sz b s x⟩ :: r) K t h = @b2t (t g) b0 ⟨@iop O (.app sz b s x) (upd t g (B b0)) h ⟨fun v h' => b0d O r K (b0l (upd t g (B b0)) d v) h'⟩⟩ ⟨b0d O r K (b0l (upd t g (B (!b0))) d U) h⟩ ⟨b0d O r K (b0l t d U) h⟩ := b20 rfl
theorem g8z {sz vs} : b0d O (⟨d, none, .bsl sz vs⟩ :: r) K t h = @iop O (.bsl sz vs) t h ⟨fun v h' => b0d O r K (b0l t d v) h'⟩ := b2y rfl
theorem g9v {sz vs} : b0d O (⟨d, some (g, b0), .bsl sz vs⟩ :: r) K t h = @b2t (t g) b0 ⟨@iop O (.bsl sz vs) (upd t g (B b0)) h ⟨fun v h' => b0d O r K (b0l (upd t g (B b0)) d v) h'⟩⟩ ⟨b0d O r K (b0l (upd t g (B (!b0))) d U) h⟩ ⟨b0d O r K (b0l t d U) h⟩ := b20 rfl
theorem j04 {sz zs b l c} : @iop O (.mksl sz zs b l c) t h ⟨k⟩ = @c5x sz zs b (evT t l) (evT t c) h ⟨k⟩ := by
  simp only [iop, op1, c5x, eff, evT, if_true, Nat.one_ne_zero, if_false]
theorem j0k {sz b s x} : @iop O (.app sz b s x) t h ⟨k⟩ = @c2o sz b (evT t s) (evT t x) h ⟨k⟩ := by
  simp only [iop, op1, c2o, eff, evT, if_true, Nat.one_ne_zero, if_false]
theorem j0o {sz vs} : @iop O (.bsl sz vs) t h ⟨k⟩ = @c9v sz (vs.map (evT t)) h ⟨k⟩ := by
  simp only [iop, op1, c9v, eff, List.length_map]
  apply propext; constructor
  · rintro ⟨r, h', he, hk⟩
    split at he
    · rename_i hc; cases he; exact ⟨hc, hk⟩
    · cases he
  · rintro ⟨hc, hk⟩
    exact ⟨_, _, by rw [if_pos hc], hk⟩
theorem d5w {sz vs} : @c9v sz vs h ⟨k⟩ = @b4r ((vs.all fun x => b2d x && (cellsOf x).length == sz) = true) ⟨k (.rs h.nx 0 vs.length) (h.new (sz, vs.map cellsOf))⟩ := rfl
theorem c5y {α : Type} {f : α → List AV} {z : α} {sz : Nat} {zs : List Value} {b : Nat} {n : Int} {l : List α} (hz : zs.map .v = f z) (hm : mks b n z = some l)
    (hk : k (.rs h.nx 0 (List.length l)) (h.new (sz, List.map f l))) : @c5x sz zs b (I n) (I n) h ⟨k⟩ := by
  obtain ⟨h0, h1, h2, rfl⟩ := d07 hm
  rw [List.length_replicate, List.map_replicate, ← hz] at hk
  refine ⟨_, _, ?_, hk⟩
  simp only [eff, evT, if_true, Nat.one_ne_zero, if_false]
  rw [if_pos ⟨trivial, h0, h1, h2⟩]
def b52 (h : Heap) (v : AV) (o : Ob) : Heap := (match v with | .rs id _ _ => h.upd id none | _ => h).new o
theorem c4g {a : Option Addr} {b c : Nat} {o : Ob} : b52 h (.v (.slice a b c)) o = h.new o := rfl
theorem c4h {id lo len : Nat} {o : Ob} : b52 h (.rs id lo len) o = (h.upd id none).new o := rfl
def b1k (h : Heap) (v : AV) (sz : Nat) (rows : List (List AV)) : Prop := (v = .v (.slice none 0 0) ∧ rows = []) ∨ ∃ id, v = .rs id 0 rows.length ∧ h.ob id = some (sz, rows) ∧ id < h.nx
def c8i (h : Heap) (v : AV) (sz : Nat) (rows : List (List AV)) : Prop := v = .fs sz rows ∨ ∃ id, v = .rs id 0 rows.length ∧ h.ob id = some (sz, rows)
def b0c (v : AV) (i : Nat) : Prop := match v with | .rs id _ _ => ¬ id = i | _ => True
theorem b7d {α : Type} {f : α → List AV} {sz b : Nat} {s x : AV} {l m r : List α} (hs : b1k h s sz (List.map f l)) (hx : c8i h x sz (List.map f m)) (hd : ∀ i, ¬ b0c s i → b0c x i) (hn : s = .v (.slice none 0 0) → ¬ m = [])
    (ha : ap b l m = some r) (hk : k (.rs h.nx 0 (List.length r)) (b52 h s (sz, List.map f r))) : @c2o sz b s x h ⟨k⟩ := by
  obtain ⟨hb, rfl⟩ := c4f ha
  rw [List.length_append, List.map_append] at hk
  refine ⟨_, _, ?_, hk⟩
  simp only [eff, evT, if_true, Nat.one_ne_zero, if_false]
  rcases hs with ⟨rfl, hl⟩ | ⟨id, rfl, ho, hlt⟩
  · have hl' : l = [] := by simpa using hl
    subst hl'
    have hm : ¬ m.length = 0 := fun e => hn rfl (List.length_eq_zero_iff.1 e)
    rcases hx with rfl | ⟨id2, rfl, ho2⟩
    · simp only [List.length_map, hm, if_false, List.map_nil, List.nil_append, List.length_nil, Nat.zero_add, c4g]
      rw [if_pos ⟨trivial, by simpa using hb⟩]
    · simp only [ho2, Option.bind_some, List.length_map, hm, if_false, List.map_nil, List.nil_append, List.length_nil, Nat.zero_add, c4g]
      rw [if_pos ⟨trivial, by simp, by simpa using hb⟩]
      simp [List.take_of_length_le]
  · rcases hx with rfl | ⟨id2, rfl, ho2⟩
    · simp only [ho, Option.bind_some, List.length_map, c4h]
      rw [if_pos ⟨trivial, trivial, by simp, hb⟩]
      simp [List.take_of_length_le]
    · have hne : id ≠ id2 := fun e => hd id (by simp [b0c]) e.symm
      simp only [ho, ho2, Option.bind_some, List.length_map, c4h]
      rw [if_pos ⟨trivial, trivial, hne, by simp, by simp, hb⟩]
      simp [List.take_of_length_le]
theorem j67 {sz : Nat} : b1k h (.v (.slice none 0 0)) sz [] := .inl ⟨rfl, rfl⟩
theorem c6m {α : Type} {f : α → List AV} {sz : Nat} : b1k h (.v (.slice none 0 0)) sz (List.map f []) := .inl ⟨rfl, rfl⟩
theorem b4f {id n sz : Nat} {rows : List (List AV)} (ho : h.ob id = some (sz, rows)) (hl : n = rows.length) (hn : id < h.nx) : b1k h (.rs id 0 n) sz rows := .inr ⟨id, by rw [hl], ho, hn⟩
theorem b8r {id n sz : Nat} {rows : List (List AV)} (ho : h.ob id = some (sz, rows)) (hl : n = rows.length) : c8i h (.rs id 0 n) sz rows := .inr ⟨id, by rw [hl], ho⟩
theorem j7a {sz : Nat} {rows : List (List AV)} : c8i h (.fs sz rows) sz rows := .inl rfl
theorem b45 {s : AV} {id lo n : Nat} (hs : b0c s id) : ∀ i, ¬ b0c s i → b0c (.rs id lo n) i := fun i hi e => hi (e ▸ hs)
theorem j2m {s : AV} {sz : Nat} {rows : List (List AV)} : ∀ i, ¬ b0c s i → b0c (.fs sz rows) i := fun _ _ => trivial
theorem b2i {a : Value} {i : Nat} : b0c (.v a) i := trivial
theorem b2j {id lo n i : Nat} (hl : ¬ id = i) : b0c (.rs id lo n) i := hl
theorem b1x {v : AV} {sz : Nat} {rows : List (List AV)} (hv : b1k h v sz rows) {i : Nat} (hi : h.nx ≤ i) : b0c v i := by
  rcases hv with ⟨rfl, _⟩ | ⟨id, rfl, _, hlt⟩
  · trivial
  · exact fun e => by omega
theorem b9a {es : List (List AV)} {i j : Nat} {c : AV} (h : at2 es i j = some c) : ∃ e, es[i]? = some e ∧ e[j]? = some c := by
  unfold at2 at h
  cases he : es[i]? with
  | none => simp [he] at h
  | some e => exact ⟨e, rfl, by rw [he] at h; exact h⟩
theorem c4z {α : Type} {f : α → List AV} {v : AV} {sz : Nat} {l : List α} (hv : b1k h v sz (List.map f l)) (hf : ∀ a, ∀ c ∈ f a, Frz c) (hl : ∀ a, (f a).length = sz) : Fz h v (.fs sz (List.map f l)) := by
  rcases hv with ⟨rfl, hr⟩ | ⟨id, rfl, ho, _⟩
  · rw [hr]; exact .nil sz
  · refine .rs id 0 _ sz _ _ ho (by simp) rfl (fun d hd => ?_) (fun i j c d h1 h2 => ?_)
    · obtain ⟨a, _, rfl⟩ := List.mem_map.1 hd; exact hl a
    · rw [Nat.zero_add] at h1
      rw [h1] at h2; cases h2
      obtain ⟨e, he, hc⟩ := b9a h1
      obtain ⟨a, _, rfl⟩ := List.mem_map.1 (List.mem_of_getElem? he)
      exact .refl _ (hf a _ (List.mem_of_getElem? hc))
theorem c40 {α : Type} {f : α → List AV} {id n sz : Nat} {l : List α} (ho : h.ob id = some (sz, List.map f l)) (hn : n = List.length l) (hf : ∀ a, ∀ c ∈ f a, Frz c) (hl : ∀ a, (f a).length = sz) : Fz h (.rs id 0 n) (.fs sz (List.map f l)) := by
  subst hn
  refine .rs id 0 _ sz _ _ ho (by simp) (by simp) (fun d hd => ?_) (fun i j c d h1 h2 => ?_)
  · obtain ⟨a, _, rfl⟩ := List.mem_map.1 hd; exact hl a
  · rw [Nat.zero_add] at h1
    rw [h1] at h2; cases h2
    obtain ⟨e, he, hc⟩ := b9a h1
    obtain ⟨a, _, rfl⟩ := List.mem_map.1 (List.mem_of_getElem? he)
    exact .refl _ (hf a _ (List.mem_of_getElem? hc))
theorem b69 {xs ys : List AV} (hz : FzL h xs ys) : xs.length = ys.length ∧ ∀ (i : Nat) c d, xs[i]? = some c → ys[i]? = some d → Fz h c d := by
  induction hz with
  | nil => exact ⟨rfl, fun i c d hc => by simp at hc⟩
  | cons a _ ih =>
    refine ⟨by simp [ih.1], fun i c d hc hd => ?_⟩
    cases i with
    | zero => simp at hc hd; subst hc; subst hd; exact a
    | succ i => simp at hc hd; exact ih.2 i c d hc hd
theorem d4s {xs ys : List AV} (hz : FzL h xs ys) : Fz h (.tup xs) (.tup ys) := .tup _ _ (b69 hz).1 (b69 hz).2
theorem d4r {id sz : Nat} {xs ys : List AV} (ho : h.ob id = some (sz, [xs])) (hz : FzL h xs ys) : Fz h (.rp id 0 0) (.fp ys 0) := .rp id 0 0 sz _ _ _ ho rfl (b69 hz).1 (b69 hz).2
theorem g45 {n : Nat} {v r : AV} (ht : t n = v) (hz : Fz h v r) : b4h [.t n] r [] ⟨t, h⟩ := by
  subst ht; exact .inl ⟨rfl, [t n], rfl, hz⟩
theorem c1p {n m : Nat} {v r u s : AV} (ht : t n = v) (hu : t m = u) (hz : Fz h v r) (hz' : Fz h u s) : b4h [.t n, .t m] (.tup [r, s]) [] ⟨t, h⟩ := by
  subst ht; subst hu; exact .inl ⟨rfl, [t n, t m], rfl, d4s (.cons hz (.cons hz' .nil))⟩
theorem g43 {n sz id m : Nat} {cs : List AV} {r : AV} (ht : t n = .rp id 0 0) (ho : h.ob id = some (m, [cs])) (hl : cs.length = sz) (hz : Fz h (.agg cs) r) : b4h [.cell n true sz] r [] ⟨t, h⟩ := by
  refine .inl ⟨rfl, [.agg cs], ?_, hz⟩
  subst hl
  simp [b3t, eff, St.ev, ht, ho]
theorem c4o {n sz id m p : Nat} {cs : List AV} {r u s : AV} (ht : t n = .rp id 0 0) (ho : h.ob id = some (m, [cs])) (hl : cs.length = sz) (hu : t p = u) (hz : Fz h (.agg cs) r) (hz' : Fz h u s) : b4h [.cell n true sz, .t p] (.tup [r, s]) [] ⟨t, h⟩ := by
  refine .inl ⟨rfl, [.agg cs, u], ?_, d4s (.cons hz (.cons hz' .nil))⟩
  subst hl; subst hu
  simp [b3t, eff, St.ev, ht, ho]
theorem c1n {b : XCode} {Q : XExit → Slots → Heap → Prop} {t' : Slots} {h' : Heap} (hg : b6w ⟨t, h⟩ ⟨t', h'⟩) (hw : cw O b Q t' h') : cw O (.seq .ghost b) Q t h := ⟨⟨t', h'⟩, hg, hw⟩
def b8g (h : Heap) (v : AV) : Heap := match v with | .rs id _ _ => h.upd id none | .rp id _ _ => h.upd id none | _ => h
theorem d22 {id : Nat} : h.upd id none = h.but (· == id) := by
  simp only [Heap.upd, Heap.but, Heap.mk.injEq, and_true]
  funext j; by_cases e : j = id <;> simp [e]
theorem g2i : h = h.but fun _ => false := by simp [Heap.but]
theorem c44 {F : Nat → Bool} {s : Nat} {y : AV} (hc : b7y (h.only F) (t s) y) : b6w ⟨t, h⟩ ⟨upd t s y, h.but F⟩ := by
  refine ⟨F, rfl, rfl, fun id sz es' ho => ?_, fun j => ?_⟩
  · have ho' : (if F id then none else h.ob id) = some (sz, es') := ho
    split at ho'
    · cases ho'
    · rename_i hf
      exact ⟨by simpa using hf, es', ho', .inl rfl, fun i j d hd => ⟨d, hd, .inl rfl⟩⟩
  · show b7y _ (t j) (upd t s y j)
    by_cases e : j = s
    · subst e; rw [c7d]; exact hc
    · rw [c7c e]; exact .inl rfl
theorem g4v {b : XCode} {Q : XExit → Slots → Heap → Prop} (hw : cw O b Q t h) : cw O (.seq .ghost b) Q t h :=
  c1n ⟨fun _ => false, rfl, rfl, fun id sz es' ho => ⟨rfl, es', ho, .inl rfl, fun i j d hd => ⟨d, hd, .inl rfl⟩⟩, fun _ => .inl rfl⟩ hw
theorem c8w {α : Type} {f : α → List AV} {b : XCode} {Q : XExit → Slots → Heap → Prop} {s : Nat} {v : AV} {sz : Nat} {l : List α} (hs : t s = v) (hv : b1k h v sz (List.map f l)) (hf : ∀ a, ∀ c ∈ f a, Frz c) (hl : ∀ a, (f a).length = sz)
    (hw : cw O b Q (upd t s (.fs sz (List.map f l))) (b8g h v)) : cw O (.seq .ghost b) Q t h := by
  subst hs
  have hfr : Frz (.fs sz (List.map f l)) := .fs _ _ fun e he c hc => by obtain ⟨a, _, rfl⟩ := List.mem_map.1 he; exact hf a c hc
  rcases hv with ⟨hv, hr⟩ | ⟨id, hv, ho, hlt⟩
  · refine c1n (h' := b8g h (t s)) ?_ hw
    rw [hv]
    have := c44 (t := t) (h := h) (F := fun _ => false) (s := s) (y := .fs sz (List.map f l)) (.inr ⟨by rw [hv, hr]; exact .nil sz, hfr⟩)
    rw [← g2i] at this
    exact this
  · refine c1n (h' := b8g h (t s)) ?_ hw
    rw [hv]
    have := c44 (t := t) (h := h) (F := (· == id)) (s := s) (y := .fs sz (List.map f l)) (.inr ⟨by rw [hv]; exact c40 (by simp [Heap.only, ho]) (by simp) hf hl, hfr⟩)
    rw [← d22] at this
    exact this
theorem c9h {a : Value} : b8g h (.v a) = h := rfl
theorem c9j {id lo n : Nat} : b8g h (.rs id lo n) = h.upd id none := rfl
theorem g4w {b : XCode} {Q : XExit → Slots → Heap → Prop} {s id n : Nat} {cs : List AV} (hs : t s = .rp id 0 0) (ho : h.ob id = some (n, [cs])) (hf : ∀ c ∈ cs, Frz c)
    (hw : cw O b Q (upd t s (.fp cs 0)) (h.upd id none)) : cw O (.seq .ghost b) Q t h := by
  refine c1n (h' := h.upd id none) ?_ hw
  rw [d22]
  refine c44 (.inr ⟨?_, .fp _ _ hf⟩)
  rw [hs]
  exact .rp id 0 0 n [cs] cs cs (by simp [Heap.only, ho]) rfl rfl (fun i c d h1 h2 => by rw [h1] at h2; cases h2; exact .refl _ (hf _ (List.mem_of_getElem? h1)))
theorem g8r {α : Type} {f : α → List AV} {sz b id2 : Nat} {s : AV} {l : List α} {r : List α} {a : α} {raw : List AV} (hs : b1k h s sz (List.map f l)) (hx : h.ob id2 = some (sz, [raw])) (hd : b0c s id2)
    (ha : ap b l [a] = some r) (hk : k (.rs h.nx 0 (List.length r)) (b52 h s (sz, List.map f l ++ [raw]))) : @c2o sz b s (.rs id2 0 1) h ⟨k⟩ := by
  obtain ⟨hb, rfl⟩ := c4f ha
  rw [List.length_append] at hk
  refine ⟨_, _, ?_, hk⟩
  simp only [eff, evT, if_true, Nat.one_ne_zero, if_false]
  have hb' : (l.length + 1) * b ≤ 2 ^ 40 := by simpa using hb
  rcases hs with ⟨rfl, hl⟩ | ⟨id, rfl, ho, hlt⟩
  · have hl' : l = [] := by simpa using hl
    subst hl'
    simp only [hx, Option.bind_some, List.map_nil, List.nil_append, List.length_nil, List.length_cons, Nat.zero_add, c4g, Nat.one_ne_zero, if_false]
    rw [if_pos ⟨trivial, by simp, by simpa using hb'⟩]
    simp
  · have hne : id ≠ id2 := hd
    simp only [ho, hx, Option.bind_some, List.length_map, c4h]
    rw [if_pos ⟨trivial, trivial, hne, by simp, by simp, hb'⟩]
    simp [List.take_of_length_le]
end
theorem g1j {h : Heap} {v : AV} {o : Ob} : (b52 h v o).nx = nxs h.nx := by cases v <;> rfl
theorem g1k {h : Heap} {v : AV} {o : Ob} {i : Nat} (hi : b0c v i) (hl : i < h.nx) : (b52 h v o).ob i = h.ob i := by
  unfold b52
  split
  · rw [d1c (by exact hl), d2a]; exact fun e => hi e.symm
  · exact d1c hl
theorem g1i {h : Heap} {v : AV} {o : Ob} {i : Nat} (hl : i = h.nx) : (b52 h v o).ob i = some o := by
  unfold b52
  split
  · exact d1b hl
  · exact d1b hl
theorem g6i {h : Heap} {v : AV} : (b8g h v).nx = h.nx := by cases v <;> rfl
attribute [go_sem ↓] g9f g99 g8v g9r g8z g9v j04 j0k j0o d5w d41
attribute [go_sem] d5w d41 c4g c4h g1j c9h c9j g6i Nat.zero_add j89 j88
end Go.Nw
namespace Go.Nw
theorem b9i {a : Value} {w : AV} : ∀ j, ¬ b0c (.v a) j → b0c w j := fun _ hj => (hj trivial).elim
theorem b9j {v : AV} {a : Value} : ∀ j, ¬ b0c v j → b0c (.v a) j := fun _ _ => trivial
theorem b9k {id lo n : Nat} {w : AV} (hw : b0c w id) : ∀ j, ¬ b0c (.rs id lo n) j → b0c w j := fun j hj => by
  have e : id = j := by simpa [b0c] using hj
  exact e ▸ hw
theorem b1r {O l b Q t h} (post : Slots → Heap → Prop) (h1 : ∀ K : Slots → Heap → Prop, (∀ t h, post t h → K t h) → b0d O l K t h) (h2 : ∀ t h, post t h → cw O b Q t h) : cw O (.seq (.reg l) b) Q t h :=
  g4z post (h1 post fun _ _ h => h) h2
theorem b76 {O l Q t h} (post : Slots → Heap → Prop) (h1 : ∀ K : Slots → Heap → Prop, (∀ t h, post t h → K t h) → b0d O l K t h) (h2 : ∀ t h, post t h → Q .normal t h) : cw O (.reg l) Q t h :=
  g40 post (h1 post fun _ _ h => h) h2
theorem b6r {α : Type} {f : α → List AV} {h : Heap} {v : AV} {sz : Nat} {l : List α} {i : Int} {x : α} (hv : b1k h v sz (List.map f l)) (hx : get l i = some x) : ∃ id, v = .rs id 0 (List.length l) ∧ h.ob id = some (sz, List.map f l) ∧ id < h.nx := by
  rcases hv with ⟨_, hr⟩ | ⟨id, h1, h2, h3⟩
  · have : l = [] := by simpa using hr
    subst this; have := b08 hx; have := b06 hx; simp at *; omega
  · exact ⟨id, by simpa using h1, h2, h3⟩
theorem c0n (x : Int) : (eI x).length = 1 := rfl
end Go.Nw
namespace Go.Nw
theorem b25 {h h' : Heap} {v : AV} {sz : Nat} {rows : List (List AV)} (hv : b1k h v sz rows) (hk : ∀ j, ¬ b0c v j → j < h.nx → h'.ob j = h.ob j) (hn : h.nx ≤ h'.nx) : b1k h' v sz rows := by
  rcases hv with ⟨rfl, hr⟩ | ⟨id, rfl, ho, hlt⟩
  · exact .inl ⟨rfl, hr⟩
  · exact .inr ⟨id, rfl, by rw [hk id (by simp [b0c]) hlt]; exact ho, by omega⟩
end Go.Nw
namespace Go.Nw
theorem b0f {a b : Nat} (h : ¬ a = b) : ¬ b = a := fun e => h e.symm
theorem b00 {α : Type} {c : Bool} {a b : α} (h : c = true) : (if c then a else b) = a := if_pos h
theorem b0z {α : Type} {c : Bool} {a b : α} (h : c = false) : (if c then a else b) = b := if_neg (by simp [h])
attribute [go_sem] d1c d1b d2a j95 g1k g1i List.length_map Bool.true_or Bool.or_true Bool.false_or Bool.or_false Bool.true_and Bool.and_true Bool.false_and Bool.and_false Bool.false_eq_true List.length_set
end Go.Nw
namespace Go.Nw
theorem b21 {v : AV} {i j : Nat} (hj : ¬ b0c v j) (hi : b0c v i) : ¬ j = i := fun e => hj (e ▸ hi)
theorem b9h {v u : AV} (h : ∀ j, ¬ b0c v j → b0c u j) : ∀ j, ¬ b0c u j → b0c v j := fun j hj => Classical.byContradiction fun hn => hj (h j hn)
end Go.Nw
namespace Go.Nw
theorem g6o {h : Heap} {f : String} {as bs cs ds : List AV} (ha : FzL h as bs) (hc : FzL h cs ds) : Fz h (.fn f as cs) (.fn f bs ds) := .fn f _ _ _ _ (b69 ha).1 (b69 ha).2 (b69 hc).1 (b69 hc).2
end Go.Nw
namespace Go.Nw
def mn (a b : Int) : Int := if b < a then b else a
def mx (a b : Int) : Int := if b > a then b else a
theorem c0q (a b : Int) : mn a b = min a b := by unfold mn; split <;> omega
theorem d1a (a b : Int) : mx a b = max a b := by unfold mx; split <;> omega
def c0g (xs : List AV) [k : K1 AV] : Prop := ∃ r, b5e b7j xs = some r ∧ k.k r
def c0f (xs : List AV) [k : K1 AV] : Prop := ∃ r, b5e b7i xs = some r ∧ k.k r
section
variable {O : Orac} {d : Option Nat} {g : Nat} {b0 : Bool} {r : List XO} {K : Slots → Heap → Prop} {t : Slots} {h : Heap} {k : AV → Heap → Prop} {k1 : AV → Prop}
theorem g9d {xs} : b0d O (⟨d, none, .min xs⟩ :: r) K t h = @iop O (.min xs) t h ⟨fun v h' => b0d O r K (b0l t d v) h'⟩ := b2y rfl
theorem g97 {xs} : b0d O (⟨d, some (g, b0), .min xs⟩ :: r) K t h = @b2t (t g) b0 ⟨@iop O (.min xs) (upd t g (B b0)) h ⟨fun v h' => b0d O r K (b0l (upd t g (B b0)) d v) h'⟩⟩ ⟨b0d O r K (b0l (upd t g (B (!b0))) d U) h⟩ ⟨b0d O r K (b0l t d U) h⟩ := b20 rfl
theorem g9c {xs} : b0d O (⟨d, none, .max xs⟩ :: r) K t h = @iop O (.max xs) t h ⟨fun v h' => b0d O r K (b0l t d v) h'⟩ := b2y rfl
theorem g96 {xs} : b0d O (⟨d, some (g, b0), .max xs⟩ :: r) K t h = @b2t (t g) b0 ⟨@iop O (.max xs) (upd t g (B b0)) h ⟨fun v h' => b0d O r K (b0l (upd t g (B b0)) d v) h'⟩⟩ ⟨b0d O r K (b0l (upd t g (B (!b0))) d U) h⟩ ⟨b0d O r K (b0l t d U) h⟩ := b20 rfl
theorem j02 {xs} : @iop O (.min xs) t h ⟨k⟩ = @c0g (xs.map (evT t)) ⟨fun v => k v h⟩ := by
  simp only [iop, op1, c0g, eff, Option.map_eq_some_iff]
  apply propext; constructor
  · rintro ⟨r, h', ⟨x, h1, h2⟩, hk⟩; cases h2; exact ⟨_, h1, hk⟩
  · rintro ⟨r, h1, hk⟩; exact ⟨r, h, ⟨r, h1, rfl⟩, hk⟩
theorem j01 {xs} : @iop O (.max xs) t h ⟨k⟩ = @c0f (xs.map (evT t)) ⟨fun v => k v h⟩ := by
  simp only [iop, op1, c0f, eff, Option.map_eq_some_iff]
  apply propext; constructor
  · rintro ⟨r, h', ⟨x, h1, h2⟩, hk⟩; cases h2; exact ⟨_, h1, hk⟩
  · rintro ⟨r, h1, hk⟩; exact ⟨r, h, ⟨r, h1, rfl⟩, hk⟩
theorem d6p {a b : Int} {kd kd'} : @c0g [.v (.int kd a), .v (.int kd' b)] ⟨k1⟩ = k1 (.v (.int kd (mn a b))) := by
  simp [c0g, b5e, b7j, mn]
theorem d6n {a b : Int} {kd kd'} : @c0f [.v (.int kd a), .v (.int kd' b)] ⟨k1⟩ = k1 (.v (.int kd (mx a b))) := by
  simp [c0f, b5e, b7i, mx]
theorem d6q {a b c : Int} {kd kd' kd''} : @c0g [.v (.int kd a), .v (.int kd' b), .v (.int kd'' c)] ⟨k1⟩ = k1 (.v (.int kd (mn (mn a b) c))) := by
  simp [c0g, b5e, b7j, mn]
  exact Iff.rfl
theorem d6o {a b c : Int} {kd kd' kd''} : @c0f [.v (.int kd a), .v (.int kd' b), .v (.int kd'' c)] ⟨k1⟩ = k1 (.v (.int kd (mx (mx a b) c))) := by
  simp [c0f, b5e, b7i, mx]
theorem g86 {agg n o x} : b0d O (⟨d, none, .fld agg n o x⟩ :: r) K t h = @iop O (.fld agg n o x) t h ⟨fun v h' => b0d O r K (b0l t d v) h'⟩ := b2y rfl
theorem g91 {agg n o x} : b0d O (⟨d, some (g, b0), .fld agg n o x⟩ :: r) K t h = @b2t (t g) b0 ⟨@iop O (.fld agg n o x) (upd t g (B b0)) h ⟨fun v h' => b0d O r K (b0l (upd t g (B b0)) d v) h'⟩⟩ ⟨b0d O r K (b0l (upd t g (B (!b0))) d U) h⟩ ⟨b0d O r K (b0l t d U) h⟩ := b20 rfl
def c9y (agg : Bool) (n o : Nat) (x : AV) [k : K1 AV] : Prop := match x with | .agg cs => b5s agg n cs o k.k | _ => False
theorem j0v {agg n o x} : @iop O (.fld agg n o x) t h ⟨k⟩ = @c9y agg n o (evT t x) ⟨fun v => k v h⟩ := by
  simp only [iop, op1, c9y, eff]
  generalize evT t x = y
  cases y with
  | agg cs =>
    simp only [b5s, b4p]
    cases agg with
    | true =>
      simp only [if_true]
      apply propext; constructor
      · rintro ⟨r, h', he, hk⟩; split at he
        · rename_i ho; cases he; exact ⟨ho, hk⟩
        · cases he
      · rintro ⟨h1, h2⟩; exact ⟨_, _, by rw [if_pos h1], h2⟩
    | false =>
      simp only [Bool.false_eq_true, if_false, Option.map_eq_some_iff]
      apply propext; constructor
      · rintro ⟨r, h', ⟨x, h1, h2⟩, hk⟩; cases h2; exact ⟨_, h1, hk⟩
      · rintro ⟨v, h1, h2⟩; exact ⟨v, h, ⟨v, h1, rfl⟩, h2⟩
  | _ => simp
theorem d6a {agg n o cs} : @c9y agg n o (.agg cs) ⟨k1⟩ = @c2q agg n cs o ⟨k1⟩ := rfl
end
def b7w (v : AV) (j : Nat) : Bool := match v with | .rs id _ _ => id == j | .rp id _ _ => id == j | _ => false
theorem g2k {h : Heap} {F : Nat → Bool} {j : Nat} (hj : F j = false) : (h.but F).ob j = h.ob j := by simp [Heap.but, hj]
theorem g2j {h : Heap} {F : Nat → Bool} : (h.but F).nx = h.nx := by simp [Heap.but]
theorem c3c {h : Heap} {F : Nat → Bool} {j : Nat} (hj : F j = true) : (h.only F).ob j = h.ob j := by simp [Heap.only, hj]
theorem d8h {h : Heap} {F : Nat → Bool} {v : AV} {sz : Nat} {rows : List (List AV)} (hv : b1k h v sz rows) (hF : ∀ j, ¬ b0c v j → F j = true) : b1k (h.only F) v sz rows := by
  rcases hv with ⟨rfl, hr⟩ | ⟨id, rfl, ho, hlt⟩
  · exact .inl ⟨rfl, hr⟩
  · exact .inr ⟨id, rfl, by rw [c3c (hF id (by simp [b0c]))]; exact ho, hlt⟩
theorem g4u {O : Orac} {b : XCode} {Q : XExit → Slots → Heap → Prop} {t : Slots} {h : Heap} {s : Nat} {v y : AV} (F : Nat → Bool) (hs : t s = v) (hz : Fz (h.only F) v y) (hf : Frz y)
    (hw : cw O b Q (upd t s y) (h.but F)) : cw O (.seq .ghost b) Q t h := by
  subst hs
  exact c1n (c44 (.inr ⟨hz, hf⟩)) hw
theorem g4x {O : Orac} {Q : XExit → Slots → Heap → Prop} {t : Slots} {h : Heap} (hw : cw O (.seq .ghost .skip) Q t h) : cw O .ghost Q t h := hw
inductive FzR (h : Heap) : List (List AV) → List (List AV) → Prop
  | nil : FzR h [] []
  | cons {x y : List AV} {xs ys : List (List AV)} (a : FzL h x y) (b : FzR h xs ys) : FzR h (x :: xs) (y :: ys)
attribute [go_sem ↓] g9d g97 g9c g96 j02 j01 g86 g91 j0v d6p d6n d6q d6o d6a
attribute [go_sem] d6p d6n d6q d6o d6a g2j g2k
end Go.Nw
namespace Go.Nw
theorem c7e {v : AV} {j : Nat} (hj : ¬ b0c v j) : b7w v j = true := by
  unfold b0c at hj; unfold b7w
  split at hj
  · simpa using hj
  · simp at hj
end Go.Nw
namespace Go.Nw
def sub {α : Type} (l : List α) (a b : Int) : Option (List α) := if 0 ≤ a ∧ a ≤ b ∧ b ≤ l.length then some ((l.take b.toNat).drop a.toNat) else none
theorem j9p {α : Type} {l r : List α} {a b : Int} (h : sub l a b = some r) : 0 ≤ a ∧ a ≤ b ∧ b ≤ l.length ∧ r = (l.take b.toNat).drop a.toNat := by
  unfold sub at h; split at h
  · rename_i hc; cases h; exact ⟨hc.1, hc.2.1, hc.2.2, rfl⟩
  · cases h
theorem j9q {α : Type} {l : List α} {a b : Int} (h0 : 0 ≤ a) (h1 : a ≤ b) (h2 : b ≤ l.length) : sub l a b = some ((l.take b.toNat).drop a.toNat) := by
  unfold sub; rw [if_pos ⟨h0, h1, h2⟩]
def d62 (n : Nat) (x : AV) (lo hi : Option AV) (h : Heap) [k : K2] : Prop := ∃ (r' : AV) (h' : Heap), ((b22 x).bind fun len =>
    (b5c 0 lo).bind fun l =>
    (b5i len hi).bind fun r =>
    if l ≤ r then
      match x with
      | .fs sz es => if sz = n then some (.fs sz ((es.take r).drop l), h) else none
      | .rs id lo' _ => (h.ob id).bind fun o => if (l = 0 ∨ l < r) ∧ o.1 = n then some (.rs id (lo' + l) (r - l), h) else none
      | _ => none
    else none) = some (r', h') ∧ k.k r' h'
section
variable {O : Orac} {d : Option Nat} {g : Nat} {b0 : Bool} {r : List XO} {K : Slots → Heap → Prop} {t : Slots} {h : Heap} {k : AV → Heap → Prop}
theorem g9j {n x lo hi} : b0d O (⟨d, none, .slc n x lo hi⟩ :: r) K t h = @iop O (.slc n x lo hi) t h ⟨fun v h' => b0d O r K (b0l t d v) h'⟩ := b2y rfl
theorem j0d {n x lo hi} : b0d O (⟨d, some (g, b0), .slc n x lo hi⟩ :: r) K t h = @b2t (t g) b0 ⟨@iop O (.slc n x lo hi) (upd t g (B b0)) h ⟨fun v h' => b0d O r K (b0l (upd t g (B b0)) d v) h'⟩⟩ ⟨b0d O r K (b0l (upd t g (B (!b0))) d U) h⟩ ⟨b0d O r K (b0l t d U) h⟩ := b20 rfl
theorem j08 {n x lo hi} : @iop O (.slc n x lo hi) t h ⟨k⟩ = @d62 n (evT t x) (lo.map (evT t)) (hi.map (evT t)) h ⟨k⟩ := rfl
theorem j1d {α : Type} {f : α → List AV} {n : Nat} {l m : List α} {lo hi : Option Int} (hs : sub l (lo.getD 0) (hi.getD l.length) = some m) (hk : k (.fs n (List.map f m)) h) : @d62 n (.fs n (List.map f l)) (lo.map fun z => I z) (hi.map fun z => I z) h ⟨k⟩ := by
  obtain ⟨h0, h1, h2, rfl⟩ := j9p hs
  refine ⟨_, _, ?_, hk⟩
  have hb : b5c 0 (lo.map fun z => I z) = some (lo.getD 0).toNat := by
    cases lo with
    | none => rfl
    | some y => have h0' : 0 ≤ y := h0; show (if 0 ≤ y then some y.toNat else none) = some y.toNat; rw [if_pos h0']
  have hh : b5i (List.map f l).length (hi.map fun z => I z) = some (hi.getD l.length).toNat := by
    rw [List.length_map]
    cases hi with
    | none => show some l.length = some (Int.toNat l.length); simp
    | some z =>
      have h1' : 0 ≤ z := by have := h0; have := h1; simp only [Option.getD_some] at *; omega
      have h2' : z ≤ l.length := h2
      show (if 0 ≤ z ∧ z.toNat ≤ l.length then some z.toNat else none) = some z.toNat
      rw [if_pos ⟨h1', by omega⟩]
  simp only [b22, Option.bind_some, hb, hh]
  rw [if_pos (by omega), if_pos trivial, List.map_drop, List.map_take]
end
attribute [go_sem ↓] g9j j0d j08
attribute [go_sem] Option.map_none
end Go.Nw
namespace Go.Nw
theorem b2k {h : Heap} {v : AV} {sz : Nat} {rows : List (List AV)} {j : Nat} (hv : b1k h v sz rows) (hj : b0c v j) : b7w v j = false := by
  rcases hv with ⟨rfl, _⟩ | ⟨id, rfl, _, _⟩
  · rfl
  · simpa [b7w, b0c] using hj
end Go.Nw
namespace Go.Nw
def b1l (k : IntKind) (a b : Int) : Int := k.wrap (BitVec.ofInt k.bits a &&& BitVec.ofInt k.bits b).toNat
def d20 (k : IntKind) (a b : Int) : Int := k.wrap (BitVec.ofInt k.bits a ||| BitVec.ofInt k.bits b).toNat
def d23 (k : IntKind) (a b : Int) : Int := k.wrap (BitVec.ofInt k.bits a ^^^ BitVec.ofInt k.bits b).toNat
def d2v (k : IntKind) (a b : Int) : Int := k.wrap (BitVec.ofInt k.bits a &&& ~~~(BitVec.ofInt k.bits b)).toNat
def d2y (k : IntKind) (a : Int) : Int := k.wrap (BitVec.ofInt k.bits (if k.signed then -1 else k.max) ^^^ BitVec.ofInt k.bits a).toNat
abbrev b6y (a b : Int) : Int := b1l .i64 a b
def c65 (k : IntKind) (a b : Int) : Int := k.wrap (a * 2 ^ (Nat.min b.toNat k.bits))
def b8x (k : IntKind) (a b : Int) : Int := a.fdiv (2 ^ (Nat.min b.toNat k.bits))
def shl (k : IntKind) (a b : Int) : Option Int := if b < 0 then none else some (c65 k a b)
def shr (k : IntKind) (a b : Int) : Option Int := if b < 0 then none else some (b8x k a b)
def quo (k : IntKind) (a b : Int) : Option Int := if b = 0 then none else some (k.wrap (a.tdiv b))
def rem (a b : Int) : Option Int := if b = 0 then none else some (a.tmod b)
theorem j9d {k : IntKind} {a b : Int} (h : 0 ≤ b) : shl k a b = some (c65 k a b) := by unfold shl; rw [if_neg (by omega)]
theorem j9f {k : IntKind} {a b : Int} (h : 0 ≤ b) : shr k a b = some (b8x k a b) := by unfold shr; rw [if_neg (by omega)]
section
variable {k : AV → Prop} {e : EqK} {kd kd' : IntKind} {a b : Int}
theorem d44 : @b2z .and e (.v (.int kd a)) (.v (.int kd b)) ⟨k⟩ = k (.v (.int kd (b1l kd a b))) := b4m (by simp [b3j, b3w, b1l])
theorem d5n : @b2z .or e (.v (.int kd a)) (.v (.int kd b)) ⟨k⟩ = k (.v (.int kd (d20 kd a b))) := b4m (by simp [b3j, b3w, d20])
theorem d5p : @b2z .xor e (.v (.int kd a)) (.v (.int kd b)) ⟨k⟩ = k (.v (.int kd (d23 kd a b))) := b4m (by simp [b3j, b3w, d23])
theorem d47 : @b2z .andNot e (.v (.int kd a)) (.v (.int kd b)) ⟨k⟩ = k (.v (.int kd (d2v kd a b))) := b4m (by simp [b3j, b3w, d2v])
theorem g8t {r : Int} (h : shl kd a b = some r) : @b2z .shl e (.v (.int kd a)) (.v (.int kd' b)) ⟨k⟩ = k (.v (.int kd r)) := by
  unfold shl at h; split at h
  · cases h
  · rename_i hb; cases h
    show b2c _ _ _ _ _ = _
    simp [b2c, b3q, b3j, c05, hb, c65]
theorem b7e {r : Int} (h : shr kd a b = some r) : @b2z .shr e (.v (.int kd a)) (.v (.int kd' b)) ⟨k⟩ = k (.v (.int kd r)) := by
  unfold shr at h; split at h
  · cases h
  · rename_i hb; cases h
    show b2c _ _ _ _ _ = _
    simp [b2c, b3q, b3j, c05, hb, b8x]
theorem g8s {r : Int} (h : rem a b = some r) : @b2z .rem e (.v (.int kd a)) (.v (.int kd b)) ⟨k⟩ = k (.v (.int kd r)) := by
  unfold rem at h; split at h
  · cases h
  · rename_i hb; cases h
    exact b4m (by simp [b3j, b3w, hb])
theorem d67 : @iun .xor (.v (.int kd a)) ⟨k⟩ = k (.v (.int kd (d2y kd a))) := by
  show unK _ _ _ = _
  simp [unK, b7v, d2y]
end
def c9w (kd : IntKind) (x : AV) [k : K1 AV] : Prop := match x with | .v (.int _ n) => k.k (.v (.int kd (kd.wrap n))) | _ => False
section
variable {O : Orac} {d : Option Nat} {g : Nat} {b0 : Bool} {r : List XO} {K : Slots → Heap → Prop} {t : Slots} {h : Heap} {k : AV → Heap → Prop} {k1 : AV → Prop}
theorem g84 {kd x} : b0d O (⟨d, none, .cvtI kd x⟩ :: r) K t h = @iop O (.cvtI kd x) t h ⟨fun v h' => b0d O r K (b0l t d v) h'⟩ := b2y rfl
theorem g9z {kd x} : b0d O (⟨d, some (g, b0), .cvtI kd x⟩ :: r) K t h = @b2t (t g) b0 ⟨@iop O (.cvtI kd x) (upd t g (B b0)) h ⟨fun v h' => b0d O r K (b0l (upd t g (B b0)) d v) h'⟩⟩ ⟨b0d O r K (b0l (upd t g (B (!b0))) d U) h⟩ ⟨b0d O r K (b0l t d U) h⟩ := b20 rfl
theorem j0t {kd x} : @iop O (.cvtI kd x) t h ⟨k⟩ = @c9w kd (evT t x) ⟨fun v => k v h⟩ := by
  simp only [iop, op1, c9w, eff]
  generalize evT t x = y
  cases y with
  | v z =>
    cases z with
    | int k' n => exact ex1
    | _ => exact ex0
  | _ => exact ex0
theorem d56 {kd kd' : IntKind} {n : Int} : @c9w kd (.v (.int kd' n)) ⟨k1⟩ = k1 (.v (.int kd (kd.wrap n))) := rfl
end
attribute [go_sem ↓] g84 g9z j0t d56 d44 d5n d5p d47 d67
attribute [go_sem] d56 d44 d5n d5p d47 d67
end Go.Nw
namespace Go.Nw
theorem d49 {k : AV → Prop} {a b c d : Int} : @b2z .eql (.flat [.i, .i]) (.agg [I a, I b]) (.agg [I c, I d]) ⟨k⟩ = k (B (decide (a = c) && decide (b = d))) := by
  show b2c _ _ _ _ _ = _
  by_cases h1 : a = c <;> by_cases h2 : b = d <;> simp [b2c, b3q, b29, b5t, h1, h2]
theorem d5h {k : AV → Prop} {a b c d : Int} : @b2z .neq (.flat [.i, .i]) (.agg [I a, I b]) (.agg [I c, I d]) ⟨k⟩ = k (B (!(decide (a = c) && decide (b = d)))) := by
  show b2c _ _ _ _ _ = _
  by_cases h1 : a = c <;> by_cases h2 : b = d <;> simp [b2c, b3q, b29, b5t, h1, h2]
theorem d5a {k : AV → Prop} {a b c d x y : Int} : @b2z .eql (.flat [.i, .i, .i]) (.agg [I a, I b, I x]) (.agg [I c, I d, I y]) ⟨k⟩ = k (B (decide (a = c) && decide (b = d) && decide (x = y))) := by
  show b2c _ _ _ _ _ = _
  by_cases h1 : a = c <;> by_cases h2 : b = d <;> by_cases h3 : x = y <;> simp [b2c, b3q, b29, b5t, h1, h2, h3]
theorem d5i {k : AV → Prop} {a b c d x y : Int} : @b2z .neq (.flat [.i, .i, .i]) (.agg [I a, I b, I x]) (.agg [I c, I d, I y]) ⟨k⟩ = k (B (!(decide (a = c) && decide (b = d) && decide (x = y)))) := by
  show b2c _ _ _ _ _ = _
  by_cases h1 : a = c <;> by_cases h2 : b = d <;> by_cases h3 : x = y <;> simp [b2c, b3q, b29, b5t, h1, h2, h3]
theorem d5j {k : AV → Prop} : @b2z .eql .slice (.v (.slice none 0 0)) (.v (.slice none 0 0)) ⟨k⟩ = k (B true) := by
  show b2c _ _ _ _ _ = _
  simp [b2c, b3q, b29, c0h]
theorem d5l {k : AV → Prop} : @b2z .neq .slice (.v (.slice none 0 0)) (.v (.slice none 0 0)) ⟨k⟩ = k (B false) := by
  show b2c _ _ _ _ _ = _
  simp [b2c, b3q, b29, c0h]
theorem d5k {k : AV → Prop} {a b c : Nat} : @b2z .eql .slice (.rs a b c) (.v (.slice none 0 0)) ⟨k⟩ = k (B false) := by
  show b2c _ _ _ _ _ = _
  simp [b2c, b3q, b29, c0h]
theorem d5m {k : AV → Prop} {a b c : Nat} : @b2z .neq .slice (.rs a b c) (.v (.slice none 0 0)) ⟨k⟩ = k (B true) := by
  show b2c _ _ _ _ _ = _
  simp [b2c, b3q, b29, c0h]
attribute [go_sem ↓] d49 d5h d5a d5i d5j d5l d5k d5m
attribute [go_sem] d49 d5h d5a d5i d5j d5l d5k d5m
theorem g9m {O : Orac} {f : String} {as as' : List AV} {r : AV} {h : Heap} {k : AV → Heap → Prop} (hz : FzL h as as') (ha : ∀ a ∈ as, Frz a) (hf : Fn O f as' r) (hk : k r h) : @c2p O f as h ⟨k⟩ :=
  ⟨r, h, ⟨as', r, [], [], hz, hf.o, .inl ha, .frz r hf.r, rfl, fun k sz es hh => by simp at hh, rfl⟩, hk⟩
theorem c9i {h0 h : Heap} {v : AV} {sz i : Nat} {rows : List (List AV)} (hv : b1k h0 v sz rows) (hi : b0c v i) : (b8g h v).ob i = h.ob i := by
  rcases hv with ⟨rfl, _⟩ | ⟨id, rfl, _, _⟩
  · rfl
  · exact d2a fun e => hi e.symm
attribute [go_sem] beq_self_eq_true eq_self
theorem nxa {a b : Nat} : (nxs a = nxs b) = (a = b) := by simp [nxs]
theorem nxb {a b : Nat} : (nxs a < nxs b) = (a < b) := by simp [nxs]
theorem j4j {n : Nat} : (n < nxs n) = True := by simp only [nxs, eq_iff_iff, iff_true]; omega
theorem j4z {i n : Nat} (h : i < n) : (i < nxs n) = True := by simp only [nxs, eq_iff_iff, iff_true]; omega
theorem j2n {n : Nat} : (n = nxs n) = False := by simp only [nxs, eq_iff_iff, iff_false]; omega
theorem j23 {n : Nat} : (nxs n = n) = False := by simp only [nxs, eq_iff_iff, iff_false]; omega
theorem j3k {i n : Nat} (h : i < n) : (i = nxs n) = False := by simp only [nxs, eq_iff_iff, iff_false]; omega
theorem j31 {i n : Nat} (h : i < n) : (nxs n = i) = False := by simp only [nxs, eq_iff_iff, iff_false]; omega
theorem j4r {n : Nat} : (n < nxs (nxs n)) = True := by simp only [nxs, eq_iff_iff, iff_true]; omega
theorem j47 {i n : Nat} (h : i < n) : (i < nxs (nxs n)) = True := by simp only [nxs, eq_iff_iff, iff_true]; omega
theorem j2v {n : Nat} : (n = nxs (nxs n)) = False := by simp only [nxs, eq_iff_iff, iff_false]; omega
theorem j3b {n : Nat} : (nxs (nxs n) = n) = False := by simp only [nxs, eq_iff_iff, iff_false]; omega
theorem j3s {i n : Nat} (h : i < n) : (i = nxs (nxs n)) = False := by simp only [nxs, eq_iff_iff, iff_false]; omega
theorem j39 {i n : Nat} (h : i < n) : (nxs (nxs n) = i) = False := by simp only [nxs, eq_iff_iff, iff_false]; omega
theorem j4s {n : Nat} : (n < nxs (nxs (nxs n))) = True := by simp only [nxs, eq_iff_iff, iff_true]; omega
theorem j48 {i n : Nat} (h : i < n) : (i < nxs (nxs (nxs n))) = True := by simp only [nxs, eq_iff_iff, iff_true]; omega
theorem j2w {n : Nat} : (n = nxs (nxs (nxs n))) = False := by simp only [nxs, eq_iff_iff, iff_false]; omega
theorem j3c {n : Nat} : (nxs (nxs (nxs n)) = n) = False := by simp only [nxs, eq_iff_iff, iff_false]; omega
theorem j3t {i n : Nat} (h : i < n) : (i = nxs (nxs (nxs n))) = False := by simp only [nxs, eq_iff_iff, iff_false]; omega
theorem j4a {i n : Nat} (h : i < n) : (nxs (nxs (nxs n)) = i) = False := by simp only [nxs, eq_iff_iff, iff_false]; omega
theorem j4t {n : Nat} : (n < nxs (nxs (nxs (nxs n)))) = True := by simp only [nxs, eq_iff_iff, iff_true]; omega
theorem j49 {i n : Nat} (h : i < n) : (i < nxs (nxs (nxs (nxs n)))) = True := by simp only [nxs, eq_iff_iff, iff_true]; omega
theorem j2x {n : Nat} : (n = nxs (nxs (nxs (nxs n)))) = False := by simp only [nxs, eq_iff_iff, iff_false]; omega
theorem j3d {n : Nat} : (nxs (nxs (nxs (nxs n))) = n) = False := by simp only [nxs, eq_iff_iff, iff_false]; omega
theorem j3u {i n : Nat} (h : i < n) : (i = nxs (nxs (nxs (nxs n)))) = False := by simp only [nxs, eq_iff_iff, iff_false]; omega
theorem j4b {i n : Nat} (h : i < n) : (nxs (nxs (nxs (nxs n))) = i) = False := by simp only [nxs, eq_iff_iff, iff_false]; omega
theorem j4u {n : Nat} : (n < nxs (nxs (nxs (nxs (nxs n))))) = True := by simp only [nxs, eq_iff_iff, iff_true]; omega
theorem j5a {i n : Nat} (h : i < n) : (i < nxs (nxs (nxs (nxs (nxs n))))) = True := by simp only [nxs, eq_iff_iff, iff_true]; omega
theorem j2y {n : Nat} : (n = nxs (nxs (nxs (nxs (nxs n))))) = False := by simp only [nxs, eq_iff_iff, iff_false]; omega
theorem j3e {n : Nat} : (nxs (nxs (nxs (nxs (nxs n)))) = n) = False := by simp only [nxs, eq_iff_iff, iff_false]; omega
theorem j3v {i n : Nat} (h : i < n) : (i = nxs (nxs (nxs (nxs (nxs n))))) = False := by simp only [nxs, eq_iff_iff, iff_false]; omega
theorem j4c {i n : Nat} (h : i < n) : (nxs (nxs (nxs (nxs (nxs n)))) = i) = False := by simp only [nxs, eq_iff_iff, iff_false]; omega
theorem j4v {n : Nat} : (n < nxs (nxs (nxs (nxs (nxs (nxs n)))))) = True := by simp only [nxs, eq_iff_iff, iff_true]; omega
theorem j5b {i n : Nat} (h : i < n) : (i < nxs (nxs (nxs (nxs (nxs (nxs n)))))) = True := by simp only [nxs, eq_iff_iff, iff_true]; omega
theorem j2z {n : Nat} : (n = nxs (nxs (nxs (nxs (nxs (nxs n)))))) = False := by simp only [nxs, eq_iff_iff, iff_false]; omega
theorem j3f {n : Nat} : (nxs (nxs (nxs (nxs (nxs (nxs n))))) = n) = False := by simp only [nxs, eq_iff_iff, iff_false]; omega
theorem j3w {i n : Nat} (h : i < n) : (i = nxs (nxs (nxs (nxs (nxs (nxs n)))))) = False := by simp only [nxs, eq_iff_iff, iff_false]; omega
theorem j4d {i n : Nat} (h : i < n) : (nxs (nxs (nxs (nxs (nxs (nxs n))))) = i) = False := by simp only [nxs, eq_iff_iff, iff_false]; omega
theorem j4w {n : Nat} : (n < nxs (nxs (nxs (nxs (nxs (nxs (nxs n))))))) = True := by simp only [nxs, eq_iff_iff, iff_true]; omega
theorem j5c {i n : Nat} (h : i < n) : (i < nxs (nxs (nxs (nxs (nxs (nxs (nxs n))))))) = True := by simp only [nxs, eq_iff_iff, iff_true]; omega
theorem j20 {n : Nat} : (n = nxs (nxs (nxs (nxs (nxs (nxs (nxs n))))))) = False := by simp only [nxs, eq_iff_iff, iff_false]; omega
theorem j3g {n : Nat} : (nxs (nxs (nxs (nxs (nxs (nxs (nxs n)))))) = n) = False := by simp only [nxs, eq_iff_iff, iff_false]; omega
theorem j3x {i n : Nat} (h : i < n) : (i = nxs (nxs (nxs (nxs (nxs (nxs (nxs n))))))) = False := by simp only [nxs, eq_iff_iff, iff_false]; omega
theorem j4e {i n : Nat} (h : i < n) : (nxs (nxs (nxs (nxs (nxs (nxs (nxs n)))))) = i) = False := by simp only [nxs, eq_iff_iff, iff_false]; omega
theorem j4x {n : Nat} : (n < nxs (nxs (nxs (nxs (nxs (nxs (nxs (nxs n)))))))) = True := by simp only [nxs, eq_iff_iff, iff_true]; omega
theorem j5d {i n : Nat} (h : i < n) : (i < nxs (nxs (nxs (nxs (nxs (nxs (nxs (nxs n)))))))) = True := by simp only [nxs, eq_iff_iff, iff_true]; omega
theorem j21 {n : Nat} : (n = nxs (nxs (nxs (nxs (nxs (nxs (nxs (nxs n)))))))) = False := by simp only [nxs, eq_iff_iff, iff_false]; omega
theorem j3h {n : Nat} : (nxs (nxs (nxs (nxs (nxs (nxs (nxs (nxs n))))))) = n) = False := by simp only [nxs, eq_iff_iff, iff_false]; omega
theorem j3y {i n : Nat} (h : i < n) : (i = nxs (nxs (nxs (nxs (nxs (nxs (nxs (nxs n)))))))) = False := by simp only [nxs, eq_iff_iff, iff_false]; omega
theorem j4f {i n : Nat} (h : i < n) : (nxs (nxs (nxs (nxs (nxs (nxs (nxs (nxs n))))))) = i) = False := by simp only [nxs, eq_iff_iff, iff_false]; omega
theorem j4y {n : Nat} : (n < nxs (nxs (nxs (nxs (nxs (nxs (nxs (nxs (nxs n))))))))) = True := by simp only [nxs, eq_iff_iff, iff_true]; omega
theorem j5e {i n : Nat} (h : i < n) : (i < nxs (nxs (nxs (nxs (nxs (nxs (nxs (nxs (nxs n))))))))) = True := by simp only [nxs, eq_iff_iff, iff_true]; omega
theorem j22 {n : Nat} : (n = nxs (nxs (nxs (nxs (nxs (nxs (nxs (nxs (nxs n))))))))) = False := by simp only [nxs, eq_iff_iff, iff_false]; omega
theorem j3i {n : Nat} : (nxs (nxs (nxs (nxs (nxs (nxs (nxs (nxs (nxs n)))))))) = n) = False := by simp only [nxs, eq_iff_iff, iff_false]; omega
theorem j3z {i n : Nat} (h : i < n) : (i = nxs (nxs (nxs (nxs (nxs (nxs (nxs (nxs (nxs n))))))))) = False := by simp only [nxs, eq_iff_iff, iff_false]; omega
theorem j4g {i n : Nat} (h : i < n) : (nxs (nxs (nxs (nxs (nxs (nxs (nxs (nxs (nxs n)))))))) = i) = False := by simp only [nxs, eq_iff_iff, iff_false]; omega
theorem j4k {n : Nat} : (n < nxs (nxs (nxs (nxs (nxs (nxs (nxs (nxs (nxs (nxs n)))))))))) = True := by simp only [nxs, eq_iff_iff, iff_true]; omega
theorem j40 {i n : Nat} (h : i < n) : (i < nxs (nxs (nxs (nxs (nxs (nxs (nxs (nxs (nxs (nxs n)))))))))) = True := by simp only [nxs, eq_iff_iff, iff_true]; omega
theorem j2o {n : Nat} : (n = nxs (nxs (nxs (nxs (nxs (nxs (nxs (nxs (nxs (nxs n)))))))))) = False := by simp only [nxs, eq_iff_iff, iff_false]; omega
theorem j24 {n : Nat} : (nxs (nxs (nxs (nxs (nxs (nxs (nxs (nxs (nxs (nxs n))))))))) = n) = False := by simp only [nxs, eq_iff_iff, iff_false]; omega
theorem j3l {i n : Nat} (h : i < n) : (i = nxs (nxs (nxs (nxs (nxs (nxs (nxs (nxs (nxs (nxs n)))))))))) = False := by simp only [nxs, eq_iff_iff, iff_false]; omega
theorem j32 {i n : Nat} (h : i < n) : (nxs (nxs (nxs (nxs (nxs (nxs (nxs (nxs (nxs (nxs n))))))))) = i) = False := by simp only [nxs, eq_iff_iff, iff_false]; omega
theorem j4l {n : Nat} : (n < nxs (nxs (nxs (nxs (nxs (nxs (nxs (nxs (nxs (nxs (nxs n))))))))))) = True := by simp only [nxs, eq_iff_iff, iff_true]; omega
theorem j41 {i n : Nat} (h : i < n) : (i < nxs (nxs (nxs (nxs (nxs (nxs (nxs (nxs (nxs (nxs (nxs n))))))))))) = True := by simp only [nxs, eq_iff_iff, iff_true]; omega
theorem j2p {n : Nat} : (n = nxs (nxs (nxs (nxs (nxs (nxs (nxs (nxs (nxs (nxs (nxs n))))))))))) = False := by simp only [nxs, eq_iff_iff, iff_false]; omega
theorem j25 {n : Nat} : (nxs (nxs (nxs (nxs (nxs (nxs (nxs (nxs (nxs (nxs (nxs n)))))))))) = n) = False := by simp only [nxs, eq_iff_iff, iff_false]; omega
theorem j3m {i n : Nat} (h : i < n) : (i = nxs (nxs (nxs (nxs (nxs (nxs (nxs (nxs (nxs (nxs (nxs n))))))))))) = False := by simp only [nxs, eq_iff_iff, iff_false]; omega
theorem j33 {i n : Nat} (h : i < n) : (nxs (nxs (nxs (nxs (nxs (nxs (nxs (nxs (nxs (nxs (nxs n)))))))))) = i) = False := by simp only [nxs, eq_iff_iff, iff_false]; omega
theorem j4m {n : Nat} : (n < nxs (nxs (nxs (nxs (nxs (nxs (nxs (nxs (nxs (nxs (nxs (nxs n)))))))))))) = True := by simp only [nxs, eq_iff_iff, iff_true]; omega
theorem j42 {i n : Nat} (h : i < n) : (i < nxs (nxs (nxs (nxs (nxs (nxs (nxs (nxs (nxs (nxs (nxs (nxs n)))))))))))) = True := by simp only [nxs, eq_iff_iff, iff_true]; omega
theorem j2q {n : Nat} : (n = nxs (nxs (nxs (nxs (nxs (nxs (nxs (nxs (nxs (nxs (nxs (nxs n)))))))))))) = False := by simp only [nxs, eq_iff_iff, iff_false]; omega
theorem j26 {n : Nat} : (nxs (nxs (nxs (nxs (nxs (nxs (nxs (nxs (nxs (nxs (nxs (nxs n))))))))))) = n) = False := by simp only [nxs, eq_iff_iff, iff_false]; omega
theorem j3n {i n : Nat} (h : i < n) : (i = nxs (nxs (nxs (nxs (nxs (nxs (nxs (nxs (nxs (nxs (nxs (nxs n)))))))))))) = False := by simp only [nxs, eq_iff_iff, iff_false]; omega
theorem j34 {i n : Nat} (h : i < n) : (nxs (nxs (nxs (nxs (nxs (nxs (nxs (nxs (nxs (nxs (nxs (nxs n))))))))))) = i) = False := by simp only [nxs, eq_iff_iff, iff_false]; omega
theorem j4n {n : Nat} : (n < nxs (nxs (nxs (nxs (nxs (nxs (nxs (nxs (nxs (nxs (nxs (nxs (nxs n))))))))))))) = True := by simp only [nxs, eq_iff_iff, iff_true]; omega
theorem j43 {i n : Nat} (h : i < n) : (i < nxs (nxs (nxs (nxs (nxs (nxs (nxs (nxs (nxs (nxs (nxs (nxs (nxs n))))))))))))) = True := by simp only [nxs, eq_iff_iff, iff_true]; omega
theorem j2r {n : Nat} : (n = nxs (nxs (nxs (nxs (nxs (nxs (nxs (nxs (nxs (nxs (nxs (nxs (nxs n))))))))))))) = False := by simp only [nxs, eq_iff_iff, iff_false]; omega
theorem j27 {n : Nat} : (nxs (nxs (nxs (nxs (nxs (nxs (nxs (nxs (nxs (nxs (nxs (nxs (nxs n)))))))))))) = n) = False := by simp only [nxs, eq_iff_iff, iff_false]; omega
theorem j3o {i n : Nat} (h : i < n) : (i = nxs (nxs (nxs (nxs (nxs (nxs (nxs (nxs (nxs (nxs (nxs (nxs (nxs n))))))))))))) = False := by simp only [nxs, eq_iff_iff, iff_false]; omega
theorem j35 {i n : Nat} (h : i < n) : (nxs (nxs (nxs (nxs (nxs (nxs (nxs (nxs (nxs (nxs (nxs (nxs (nxs n)))))))))))) = i) = False := by simp only [nxs, eq_iff_iff, iff_false]; omega
theorem j4o {n : Nat} : (n < nxs (nxs (nxs (nxs (nxs (nxs (nxs (nxs (nxs (nxs (nxs (nxs (nxs (nxs n)))))))))))))) = True := by simp only [nxs, eq_iff_iff, iff_true]; omega
theorem j44 {i n : Nat} (h : i < n) : (i < nxs (nxs (nxs (nxs (nxs (nxs (nxs (nxs (nxs (nxs (nxs (nxs (nxs (nxs n)))))))))))))) = True := by simp only [nxs, eq_iff_iff, iff_true]; omega
theorem j2s {n : Nat} : (n = nxs (nxs (nxs (nxs (nxs (nxs (nxs (nxs (nxs (nxs (nxs (nxs (nxs (nxs n)))))))))))))) = False := by simp only [nxs, eq_iff_iff, iff_false]; omega
theorem j28 {n : Nat} : (nxs (nxs (nxs (nxs (nxs (nxs (nxs (nxs (nxs (nxs (nxs (nxs (nxs (nxs n))))))))))))) = n) = False := by simp only [nxs, eq_iff_iff, iff_false]; omega
theorem j3p {i n : Nat} (h : i < n) : (i = nxs (nxs (nxs (nxs (nxs (nxs (nxs (nxs (nxs (nxs (nxs (nxs (nxs (nxs n)))))))))))))) = False := by simp only [nxs, eq_iff_iff, iff_false]; omega
theorem j36 {i n : Nat} (h : i < n) : (nxs (nxs (nxs (nxs (nxs (nxs (nxs (nxs (nxs (nxs (nxs (nxs (nxs (nxs n))))))))))))) = i) = False := by simp only [nxs, eq_iff_iff, iff_false]; omega
theorem j4p {n : Nat} : (n < nxs (nxs (nxs (nxs (nxs (nxs (nxs (nxs (nxs (nxs (nxs (nxs (nxs (nxs (nxs n))))))))))))))) = True := by simp only [nxs, eq_iff_iff, iff_true]; omega
theorem j45 {i n : Nat} (h : i < n) : (i < nxs (nxs (nxs (nxs (nxs (nxs (nxs (nxs (nxs (nxs (nxs (nxs (nxs (nxs (nxs n))))))))))))))) = True := by simp only [nxs, eq_iff_iff, iff_true]; omega
theorem j2t {n : Nat} : (n = nxs (nxs (nxs (nxs (nxs (nxs (nxs (nxs (nxs (nxs (nxs (nxs (nxs (nxs (nxs n))))))))))))))) = False := by simp only [nxs, eq_iff_iff, iff_false]; omega
theorem j29 {n : Nat} : (nxs (nxs (nxs (nxs (nxs (nxs (nxs (nxs (nxs (nxs (nxs (nxs (nxs (nxs (nxs n)))))))))))))) = n) = False := by simp only [nxs, eq_iff_iff, iff_false]; omega
theorem j3q {i n : Nat} (h : i < n) : (i = nxs (nxs (nxs (nxs (nxs (nxs (nxs (nxs (nxs (nxs (nxs (nxs (nxs (nxs (nxs n))))))))))))))) = False := by simp only [nxs, eq_iff_iff, iff_false]; omega
theorem j37 {i n : Nat} (h : i < n) : (nxs (nxs (nxs (nxs (nxs (nxs (nxs (nxs (nxs (nxs (nxs (nxs (nxs (nxs (nxs n)))))))))))))) = i) = False := by simp only [nxs, eq_iff_iff, iff_false]; omega
theorem j4q {n : Nat} : (n < nxs (nxs (nxs (nxs (nxs (nxs (nxs (nxs (nxs (nxs (nxs (nxs (nxs (nxs (nxs (nxs n)))))))))))))))) = True := by simp only [nxs, eq_iff_iff, iff_true]; omega
theorem j46 {i n : Nat} (h : i < n) : (i < nxs (nxs (nxs (nxs (nxs (nxs (nxs (nxs (nxs (nxs (nxs (nxs (nxs (nxs (nxs (nxs n)))))))))))))))) = True := by simp only [nxs, eq_iff_iff, iff_true]; omega
theorem j2u {n : Nat} : (n = nxs (nxs (nxs (nxs (nxs (nxs (nxs (nxs (nxs (nxs (nxs (nxs (nxs (nxs (nxs (nxs n)))))))))))))))) = False := by simp only [nxs, eq_iff_iff, iff_false]; omega
theorem j3a {n : Nat} : (nxs (nxs (nxs (nxs (nxs (nxs (nxs (nxs (nxs (nxs (nxs (nxs (nxs (nxs (nxs (nxs n))))))))))))))) = n) = False := by simp only [nxs, eq_iff_iff, iff_false]; omega
theorem j3r {i n : Nat} (h : i < n) : (i = nxs (nxs (nxs (nxs (nxs (nxs (nxs (nxs (nxs (nxs (nxs (nxs (nxs (nxs (nxs (nxs n)))))))))))))))) = False := by simp only [nxs, eq_iff_iff, iff_false]; omega
theorem j38 {i n : Nat} (h : i < n) : (nxs (nxs (nxs (nxs (nxs (nxs (nxs (nxs (nxs (nxs (nxs (nxs (nxs (nxs (nxs (nxs n))))))))))))))) = i) = False := by simp only [nxs, eq_iff_iff, iff_false]; omega
theorem j3j {i : Nat} {h : Heap} (hl : i < h.nx) : (i = h.nx) = False := by simp only [eq_iff_iff, iff_false]; omega
theorem j30 {i : Nat} {h : Heap} (hl : i < h.nx) : (h.nx = i) = False := by simp only [eq_iff_iff, iff_false]; omega
attribute [go_sem] nxa nxb j4j j4z j2n j23 j3k j31 j4r j47 j2v j3b j3s j39 j4s j48 j2w j3c j3t j4a j4t j49 j2x j3d j3u j4b j4u j5a j2y j3e j3v j4c j4v j5b j2z j3f j3w j4d j4w j5c j20 j3g j3x j4e j4x j5d j21 j3h j3y j4f j4y j5e j22 j3i j3z j4g j4k j40 j2o j24 j3l j32 j4l j41 j2p j25 j3m j33 j4m j42 j2q j26 j3n j34 j4n j43 j2r j27 j3o j35 j4o j44 j2s j28 j3p j36 j4p j45 j2t j29 j3q j37 j4q j46 j2u j3a j3r j38 j3j j30
end Go.Nw
