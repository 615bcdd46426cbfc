/- Own objects: rules for what makes, reads, writes and hands them over. -/
import Derived.Test.YteoedeeljnboeaaNwModel
set_option linter.all false
set_option linter.unusedVariables false
set_option linter.unusedSimpArgs false
set_option linter.unusedSectionVars false
namespace Go.Nw
theorem d04 {h : Heap} {o : Ob} {i : Nat} (hl : i < h.nx) : (h.new o).ob i = h.ob i := by
  simp only [Heap.new]; rw [if_neg (by omega)]
theorem d03 {h : Heap} {o : Ob} {i : Nat} (hl : i = h.nx) : (h.new o).ob i = some o := by
  simp only [Heap.new]; rw [if_pos hl]
theorem d1y {h : Heap} {o : Option Ob} {i j : Nat} (hl : ¬ i = j) : (h.upd j o).ob i = h.ob i := by
  simp only [Heap.upd]; rw [if_neg hl]
theorem j7c {h : Heap} {o : Option Ob} {i j : Nat} (hl : i = j) : (h.upd j o).ob i = o := by
  simp only [Heap.upd]; rw [if_pos hl]
theorem d5e {p : Prop} : @b4j True ⟨p⟩ = p := by simp [b4j]
theorem b0n {α : Type} {f : α → List AV} {l : List α} {i : Int} {x : α} {sz : Nat} {k : Nat → List (List AV) → List AV → Prop} (hx : get l i = some x) :
    @c5j (some (sz, List.map f l)) i.toNat ⟨k⟩ = k sz (List.map f l) (f x) := by
  show b7d _ _ _ = _
  simp only [d81, List.getElem?_map, b5j hx, Option.map_some, Option.some.injEq]
  apply propext; constructor
  · rintro ⟨_, rfl, hk⟩; exact hk
  · exact fun hk => ⟨_, rfl, hk⟩
theorem j6j {l : List Int} {n : Nat} {v : Int} : (List.map eI l).set n [I v] = List.map eI (l.set n v) := by rw [List.map_set]; rfl
theorem j6i {l : List Bool} {n : Nat} {v : Bool} : (List.map eB l).set n [B v] = List.map eB (l.set n v) := by rw [List.map_set]; rfl
def mks {α : Type} (b : Nat) (n : Int) (z : α) : Option (List α) := if 0 ≤ n ∧ n * b ≤ 2 ^ 47 ∧ n < 2 ^ 63 then some (List.replicate n.toNat z) else none
theorem d00 {α : Type} {b : Nat} {n : Int} {z : α} {l : List α} (h : mks b n z = some l) : 0 ≤ n ∧ n * b ≤ 2 ^ 47 ∧ n < 2 ^ 63 ∧ l = List.replicate n.toNat z := by
  unfold mks at h; split at h
  · rename_i hc; cases h; exact ⟨hc.1, hc.2.1, hc.2.2, rfl⟩
  · cases h
theorem d73 {α : Type} {b : Nat} {n : Int} {z : α} (h0 : 0 ≤ n) (h1 : n * b ≤ 2 ^ 47) (h2 : n < 2 ^ 63) : mks b n z = some (List.replicate n.toNat z) := by
  unfold mks; rw [if_pos ⟨h0, h1, h2⟩]
def ap {α : Type} (b : Nat) (l m : List α) : Option (List α) := if (l.length + m.length) * b ≤ 2 ^ 40 then some (l ++ m) else none
theorem c0x {α : Type} {b : Nat} {l m r : List α} (h : ap b l m = some r) : (l.length + m.length) * b ≤ 2 ^ 40 ∧ r = l ++ m := by
  unfold ap at h; split at h
  · rename_i hc; cases h; exact ⟨hc, rfl⟩
  · cases h
theorem c7q {α : Type} {b : Nat} {l m : List α} (h : (l.length + m.length) * b ≤ 2 ^ 40) : ap b l m = some (l ++ m) := by
  unfold ap; rw [if_pos h]
def c5e (sz : Nat) (zs : List Value) (b : Nat) (l c : AV) (h : Heap) [k : K2] : Prop := ∃ r h', eff (.mksl sz zs b (.t 0) (.t 1)) (evT fun i => if i = 0 then l else c) h = some (r, h') ∧ k.k r h'
def c1z (sz b : Nat) (s x : AV) (h : Heap) [k : K2] : Prop := ∃ r h', eff (.app sz b (.t 0) (.t 1)) (evT fun i => if i = 0 then s else x) h = some (r, h') ∧ k.k r h'
def c9t (sz : Nat) (vs : List AV) (h : Heap) [k : K2] : Prop := (vs.all fun x => b2u x && (cellsOf x).length == sz) = true ∧ k.k (.rs h.nx 0 vs.length) (h.new (sz, vs.map cellsOf))
section
variable {O : Orac} {d : Option Nat} {g : Nat} {b0 : Bool} {r : List XO} {K : Slots → Heap → Prop} {t : Slots} {h : Heap} {k : AV → Heap → Prop}
theorem g7t {sz zs b l c} : b0g O (⟨d, none, .mksl sz zs b l c⟩ :: r) K t h = @iop O (.mksl sz zs b l c) t h ⟨fun v h' => b0g O r K (b0t t d v) h'⟩ := b24 rfl
theorem g8n {sz zs b l c} : b0g O (⟨d, some (g, b0), .mksl sz zs b l c⟩ :: r) K t h = @b21 (t g) b0 ⟨@iop O (.mksl sz zs b l c) (upd t g (B b0)) h ⟨fun v h' => b0g O r K (b0t (upd t g (B b0)) d v) h'⟩⟩ ⟨b0g O r K (b0t (upd t g (B (!b0))) d U) h⟩ ⟨b0g O r K (b0t t d U) h⟩ := b25 rfl
theorem g69 {sz b s x} : b0g O (⟨d, none, .app sz b s x⟩ :: r) K t h = @iop O (.app sz b s x) t h ⟨fun v h' => b0g O r K (b0t t d v) h'⟩ := b24 rfl
theorem g75 {sz b s x} : b0g O (⟨d, some (g, b0), .app sz b s x⟩ :: r) K t h = @b21 (t g) b0 ⟨@iop O (.app sz b s x) (upd t g (B b0)) h ⟨fun v h' => b0g O r K (b0t (upd t g (B b0)) d v) h'⟩⟩ ⟨b0g O r K (b0t (upd t g (B (!b0))) d U) h⟩ ⟨b0g O r K (b0t t d U) h⟩ := b25 rfl
theorem g7d {sz vs} : b0g O (⟨d, none, .bsl sz vs⟩ :: r) K t h = @iop O (.bsl sz vs) t h ⟨fun v h' => b0g O r K (b0t t d v) h'⟩ := b24 rfl
theorem g79 {sz vs} : b0g O (⟨d, some (g, b0), .bsl sz vs⟩ :: r) K t h = @b21 (t g) b0 ⟨@iop O (.bsl sz vs) (upd t g (B b0)) h ⟨fun v h' => b0g O r K (b0t (upd t g (B b0)) d v) h'⟩⟩ ⟨b0g O r K (b0t (upd t g (B (!b0))) d U) h⟩ ⟨b0g O r K (b0t t d U) h⟩ := b25 rfl
theorem g9g {sz zs b l c} : @iop O (.mksl sz zs b l c) t h ⟨k⟩ = @c5e sz zs b (evT t l) (evT t c) h ⟨k⟩ := by
  simp only [iop, op1, c5e, eff, evT, if_true, Nat.one_ne_zero, if_false]
theorem g8w {sz b s x} : @iop O (.app sz b s x) t h ⟨k⟩ = @c1z sz b (evT t s) (evT t x) h ⟨k⟩ := by
  simp only [iop, op1, c1z, eff, evT, if_true, Nat.one_ne_zero, if_false]
theorem g80 {sz vs} : @iop O (.bsl sz vs) t h ⟨k⟩ = @c9t sz (vs.map (evT t)) h ⟨k⟩ := by
  simp only [iop, op1, c9t, eff, List.length_map]
  apply propext; constructor
  · rintro ⟨r, h', he, hk⟩
    split at he
    · rename_i hc; cases he; exact ⟨hc, hk⟩
    · cases he
  · rintro ⟨hc, hk⟩
    exact ⟨_, _, by rw [if_pos hc], hk⟩
theorem d6c {sz vs} : @c9t sz vs h ⟨k⟩ = @b4j ((vs.all fun x => b2u x && (cellsOf x).length == sz) = true) ⟨k (.rs h.nx 0 vs.length) (h.new (sz, vs.map cellsOf))⟩ := rfl
theorem b6e {α : Type} {f : α → List AV} {z : α} {sz : Nat} {zs : List Value} {b : Nat} {n : Int} {l : List α} (hz : zs.map .v = f z) (hm : mks b n z = some l)
    (hk : k (.rs h.nx 0 (List.length l)) (h.new (sz, List.map f l))) : @c5e sz zs b (I n) (I n) h ⟨k⟩ := by
  obtain ⟨h0, h1, h2, rfl⟩ := d00 hm
  rw [List.length_replicate, List.map_replicate, ← hz] at hk
  refine ⟨_, _, ?_, hk⟩
  simp only [eff, evT, if_true, Nat.one_ne_zero, if_false]
  rw [if_pos ⟨trivial, h0, h1, h2⟩]
def b5r (h : Heap) (v : AV) (o : Ob) : Heap := (match v with | .rs id _ _ => h.upd id none | _ => h).new o
theorem c3v {a : Option Addr} {b c : Nat} {o : Ob} : b5r h (.v (.slice a b c)) o = h.new o := rfl
theorem c3w {id lo len : Nat} {o : Ob} : b5r h (.rs id lo len) o = (h.upd id none).new o := rfl
def b09 (h : Heap) (v : AV) (sz : Nat) (rows : List (List AV)) : Prop := (v = .v (.slice none 0 0) ∧ rows = []) ∨ ∃ id, v = .rs id 0 rows.length ∧ h.ob id = some (sz, rows) ∧ id < h.nx
def d2d (h : Heap) (v : AV) (sz : Nat) (rows : List (List AV)) : Prop := v = .fs sz rows ∨ ∃ id, v = .rs id 0 rows.length ∧ h.ob id = some (sz, rows)
def b0c (v : AV) (i : Nat) : Prop := match v with | .rs id _ _ => ¬ id = i | _ => True
theorem b5l {α : Type} {f : α → List AV} {sz b : Nat} {s x : AV} {l m r : List α} (hs : b09 h s sz (List.map f l)) (hx : d2d h x sz (List.map f m)) (hd : ∀ i, ¬ b0c s i → b0c x i) (hn : s = .v (.slice none 0 0) → ¬ m = [])
    (ha : ap b l m = some r) (hk : k (.rs h.nx 0 (List.length r)) (b5r h s (sz, List.map f r))) : @c1z sz b s x h ⟨k⟩ := by
  obtain ⟨hb, rfl⟩ := c0x ha
  rw [List.length_append, List.map_append] at hk
  refine ⟨_, _, ?_, hk⟩
  simp only [eff, evT, if_true, Nat.one_ne_zero, if_false]
  rcases hs with ⟨rfl, hl⟩ | ⟨id, rfl, ho, hlt⟩
  · have hl' : l = [] := by simpa using hl
    subst hl'
    have hm : ¬ m.length = 0 := fun e => hn rfl (List.length_eq_zero_iff.1 e)
    rcases hx with rfl | ⟨id2, rfl, ho2⟩
    · simp only [List.length_map, hm, if_false, List.map_nil, List.nil_append, List.length_nil, Nat.zero_add, c3v]
      rw [if_pos ⟨trivial, by simpa using hb⟩]
    · simp only [ho2, Option.bind_some, List.length_map, hm, if_false, List.map_nil, List.nil_append, List.length_nil, Nat.zero_add, c3v]
      rw [if_pos ⟨trivial, by simp, by simpa using hb⟩]
      simp [List.take_of_length_le]
  · rcases hx with rfl | ⟨id2, rfl, ho2⟩
    · simp only [ho, Option.bind_some, List.length_map, c3w]
      rw [if_pos ⟨trivial, trivial, by simp, hb⟩]
      simp [List.take_of_length_le]
    · have hne : id ≠ id2 := fun e => hd id (by simp [b0c]) e.symm
      simp only [ho, ho2, Option.bind_some, List.length_map, c3w]
      rw [if_pos ⟨trivial, trivial, hne, by simp, by simp, hb⟩]
      simp [List.take_of_length_le]
theorem j41 {sz : Nat} : b09 h (.v (.slice none 0 0)) sz [] := .inl ⟨rfl, rfl⟩
theorem b65 {α : Type} {f : α → List AV} {sz : Nat} : b09 h (.v (.slice none 0 0)) sz (List.map f []) := .inl ⟨rfl, rfl⟩
theorem b3c {id n sz : Nat} {rows : List (List AV)} (ho : h.ob id = some (sz, rows)) (hl : n = rows.length) (hn : id < h.nx) : b09 h (.rs id 0 n) sz rows := .inr ⟨id, by rw [hl], ho, hn⟩
theorem b5n {id n sz : Nat} {rows : List (List AV)} (ho : h.ob id = some (sz, rows)) (hl : n = rows.length) : d2d h (.rs id 0 n) sz rows := .inr ⟨id, by rw [hl], ho⟩
theorem b3h {s : AV} {id lo n : Nat} (hs : b0c s id) : ∀ i, ¬ b0c s i → b0c (.rs id lo n) i := fun i hi e => hi (e ▸ hs)
theorem b1k {a : Value} {i : Nat} : b0c (.v a) i := trivial
theorem b1l {id lo n i : Nat} (hl : ¬ id = i) : b0c (.rs id lo n) i := hl
theorem b1g {v : AV} {sz : Nat} {rows : List (List AV)} (hv : b09 h v sz rows) {i : Nat} (hi : h.nx ≤ i) : b0c v i := by
  rcases hv with ⟨rfl, _⟩ | ⟨id, rfl, _, hlt⟩
  · trivial
  · exact fun e => by omega
theorem b81 {es : List (List AV)} {i j : Nat} {c : AV} (h : at2 es i j = some c) : ∃ e, es[i]? = some e ∧ e[j]? = some c := by
  unfold at2 at h
  cases he : es[i]? with
  | none => simp [he] at h
  | some e => exact ⟨e, rfl, by rw [he] at h; exact h⟩
theorem b7s {α : Type} {f : α → List AV} {v : AV} {sz : Nat} {l : List α} (hv : b09 h v sz (List.map f l)) (hf : ∀ a, ∀ c ∈ f a, Frz c) (hl : ∀ a, (f a).length = sz) : Fz h v (.fs sz (List.map f l)) := by
  rcases hv with ⟨rfl, hr⟩ | ⟨id, rfl, ho, _⟩
  · rw [hr]; exact .nil sz
  · refine .rs id 0 _ sz _ _ ho (by simp) rfl (fun d hd => ?_) (fun i j c d h1 h2 => ?_)
    · obtain ⟨a, _, rfl⟩ := List.mem_map.1 hd; exact hl a
    · rw [Nat.zero_add] at h1
      rw [h1] at h2; cases h2
      obtain ⟨e, he, hc⟩ := b81 h1
      obtain ⟨a, _, rfl⟩ := List.mem_map.1 (List.mem_of_getElem? he)
      exact .refl _ (hf a _ (List.mem_of_getElem? hc))
theorem b42 {α : Type} {f : α → List AV} {id n sz : Nat} {l : List α} (ho : h.ob id = some (sz, List.map f l)) (hn : n = List.length l) (hf : ∀ a, ∀ c ∈ f a, Frz c) (hl : ∀ a, (f a).length = sz) : Fz h (.rs id 0 n) (.fs sz (List.map f l)) := by
  subst hn
  refine .rs id 0 _ sz _ _ ho (by simp) (by simp) (fun d hd => ?_) (fun i j c d h1 h2 => ?_)
  · obtain ⟨a, _, rfl⟩ := List.mem_map.1 hd; exact hl a
  · rw [Nat.zero_add] at h1
    rw [h1] at h2; cases h2
    obtain ⟨e, he, hc⟩ := b81 h1
    obtain ⟨a, _, rfl⟩ := List.mem_map.1 (List.mem_of_getElem? he)
    exact .refl _ (hf a _ (List.mem_of_getElem? hc))
theorem b4r {xs ys : List AV} (hz : FzL h xs ys) : xs.length = ys.length ∧ ∀ (i : Nat) c d, xs[i]? = some c → ys[i]? = some d → Fz h c d := by
  induction hz with
  | nil => exact ⟨rfl, fun i c d hc => by simp at hc⟩
  | cons a _ ih =>
    refine ⟨by simp [ih.1], fun i c d hc hd => ?_⟩
    cases i with
    | zero => simp at hc hd; subst hc; subst hd; exact a
    | succ i => simp at hc hd; exact ih.2 i c d hc hd
theorem d3u {xs ys : List AV} (hz : FzL h xs ys) : Fz h (.tup xs) (.tup ys) := .tup _ _ (b4r hz).1 (b4r hz).2
theorem g49 {xs ys : List AV} (hz : FzL h xs ys) : Fz h (.agg xs) (.agg ys) := .agg _ _ (b4r hz).1 (b4r hz).2
theorem c4h {id sz : Nat} {xs ys : List AV} (ho : h.ob id = some (sz, [xs])) (hz : FzL h xs ys) : Fz h (.rp id 0 0) (.fp ys 0) := .rp id 0 0 sz _ _ _ ho rfl (b4r hz).1 (b4r hz).2
theorem c72 {n : Nat} {v r : AV} (ht : t n = v) (hz : Fz h v r) : b4v [.t n] r [] ⟨t, h⟩ := by
  subst ht; exact .inl ⟨rfl, [t n], rfl, hz⟩
theorem b5u {n m : Nat} {v r u s : AV} (ht : t n = v) (hu : t m = u) (hz : Fz h v r) (hz' : Fz h u s) : b4v [.t n, .t m] (.tup [r, s]) [] ⟨t, h⟩ := by
  subst ht; subst hu; exact .inl ⟨rfl, [t n, t m], rfl, d3u (.cons hz (.cons hz' .nil))⟩
theorem g4j {n m l : Nat} {v r u s x y : AV} (ht : t n = v) (hu : t m = u) (hx : t l = x) (hz : Fz h v r) (hz' : Fz h u s) (hz'' : Fz h x y) : b4v [.t n, .t m, .t l] (.tup [r, s, y]) [] ⟨t, h⟩ := by
  subst ht; subst hu; subst hx; exact .inl ⟨rfl, [t n, t m, t l], rfl, d3u (.cons hz (.cons hz' (.cons hz'' .nil)))⟩
theorem g4h {n sz id m : Nat} {cs : List AV} {r : AV} (ht : t n = .rp id 0 0) (ho : h.ob id = some (m, [cs])) (hl : cs.length = sz) (hz : Fz h (.agg cs) r) : b4v [.cell n true sz] r [] ⟨t, h⟩ := by
  refine .inl ⟨rfl, [.agg cs], ?_, hz⟩
  subst hl
  simp [b4e, eff, St.ev, ht, ho]
theorem c04 {b : XCode} {Q : XExit → Slots → Heap → Prop} {t' : Slots} {h' : Heap} (hg : c0p ⟨t, h⟩ ⟨t', h'⟩) (hw : cw O b Q t' h') : cw O (.seq .ghost b) Q t h := ⟨⟨t', h'⟩, hg, hw⟩
def b7r (h : Heap) (v : AV) : Heap := match v with | .rs id _ _ => h.upd id none | .rp id _ _ => h.upd id none | _ => h
theorem g2a {id : Nat} : h.upd id none = h.but (· == id) := by
  simp only [Heap.upd, Heap.but, Heap.mk.injEq, and_true]
  funext j; by_cases e : j = id <;> simp [e]
theorem g17 : h = h.but fun _ => false := by simp [Heap.but]
theorem c8h {F : Nat → Bool} {s : Nat} {y : AV} (hc : c0o (h.only F) (t s) y) : c0p ⟨t, h⟩ ⟨upd t s y, h.but F⟩ := by
  refine ⟨F, rfl, rfl, fun id sz es' ho => ?_, fun j => ?_⟩
  · have ho' : (if F id then none else h.ob id) = some (sz, es') := ho
    split at ho'
    · cases ho'
    · rename_i hf
      exact ⟨by simpa using hf, es', ho', .inl rfl, fun i j d hd => ⟨d, hd, .inl rfl⟩⟩
  · show c0o _ (t j) (upd t s y j)
    by_cases e : j = s
    · subst e; rw [d9r]; exact hc
    · rw [d9q e]; exact .inl rfl
theorem g4a {b : XCode} {Q : XExit → Slots → Heap → Prop} (hw : cw O b Q t h) : cw O (.seq .ghost b) Q t h :=
  c04 ⟨fun _ => false, rfl, rfl, fun id sz es' ho => ⟨rfl, es', ho, .inl rfl, fun i j d hd => ⟨d, hd, .inl rfl⟩⟩, fun _ => .inl rfl⟩ hw
theorem c4b {α : Type} {f : α → List AV} {b : XCode} {Q : XExit → Slots → Heap → Prop} {s : Nat} {v : AV} {sz : Nat} {l : List α} (hs : t s = v) (hv : b09 h v sz (List.map f l)) (hf : ∀ a, ∀ c ∈ f a, Frz c) (hl : ∀ a, (f a).length = sz)
    (hw : cw O b Q (upd t s (.fs sz (List.map f l))) (b7r h v)) : cw O (.seq .ghost b) Q t h := by
  subst hs
  have hfr : Frz (.fs sz (List.map f l)) := .fs _ _ fun e he c hc => by obtain ⟨a, _, rfl⟩ := List.mem_map.1 he; exact hf a c hc
  rcases hv with ⟨hv, hr⟩ | ⟨id, hv, ho, hlt⟩
  · refine c04 (h' := b7r h (t s)) ?_ hw
    rw [hv]
    have := c8h (t := t) (h := h) (F := fun _ => false) (s := s) (y := .fs sz (List.map f l)) (.inr ⟨by rw [hv, hr]; exact .nil sz, hfr⟩)
    rw [← g17] at this
    exact this
  · refine c04 (h' := b7r h (t s)) ?_ hw
    rw [hv]
    have := c8h (t := t) (h := h) (F := (· == id)) (s := s) (y := .fs sz (List.map f l)) (.inr ⟨by rw [hv]; exact b42 (by simp [Heap.only, ho]) (by simp) hf hl, hfr⟩)
    rw [← g2a] at this
    exact this
theorem c8d {a : Value} : b7r h (.v a) = h := rfl
theorem c8f {id lo n : Nat} : b7r h (.rs id lo n) = h.upd id none := rfl
theorem g4b {α : Type} {f : α → List AV} {b : XCode} {Q : XExit → Slots → Heap → Prop} {id sz : Nat} {l : List α} {a : α} {raw : List AV} (F : Nat → Bool) (ho : h.ob id = some (sz, List.map f l ++ [raw])) (hi : F id = false)
    (hz : FzL (h.only F) raw (f a)) (hf : ∀ a, ∀ c ∈ f a, Frz c) (hl : ∀ a, (f a).length = sz) (hw : cw O b Q t ((h.but F).upd id (some (sz, List.map f (l ++ [a]))))) : cw O (.seq .ghost b) Q t h := by
  refine c04 (t' := t) (h' := (h.but F).upd id (some (sz, List.map f (l ++ [a])))) ⟨F, rfl, rfl, fun j n es' hj => ?_, fun _ => .inl rfl⟩ hw
  have hj' : (if j = id then some (sz, List.map f (l ++ [a])) else (if F j then none else h.ob j)) = some (n, es') := hj
  split at hj'
  · rename_i e; subst e
    simp only [Option.some.injEq, Prod.mk.injEq] at hj'
    obtain ⟨rfl, rfl⟩ := hj'
    refine ⟨hi, _, ho, .inr ⟨by simp, fun e he => ?_⟩, fun i k d hd => ?_⟩
    · obtain ⟨x, _, rfl⟩ := List.mem_map.1 he; exact hl x
    · rw [List.map_append] at hd
      by_cases hik : i < l.length
      · refine ⟨d, ?_, .inl rfl⟩
        simp only [at2] at hd ⊢
        rw [List.getElem?_append_left (by simpa using hik)] at hd ⊢
        exact hd
      · by_cases he : i = l.length
        · subst he
          have h1 : at2 (List.map f l ++ List.map f [a]) l.length k = (f a)[k]? := by simp [at2]
          have h2 : at2 (List.map f l ++ [raw]) l.length k = raw[k]? := by simp [at2]
          rw [h1] at hd; rw [h2]
          have hlen := (b4r hz).1
          obtain ⟨hk, _⟩ := List.getElem?_eq_some_iff.1 hd
          have hk' : k < raw.length := by rw [hlen]; exact hk
          exact ⟨raw[k], List.getElem?_eq_getElem hk', .inr ⟨(b4r hz).2 k _ _ (List.getElem?_eq_getElem hk') hd, hf a _ (List.mem_of_getElem? hd)⟩⟩
        · exfalso
          have : at2 (List.map f l ++ List.map f [a]) i k = none := by
            have : (List.map f l ++ List.map f [a])[i]? = none := by rw [List.getElem?_eq_none_iff]; simp; omega
            unfold at2; rw [this]; rfl
          rw [this] at hd; cases hd
  · split at hj'
    · cases hj'
    · rename_i _ hf'
      exact ⟨by simpa using hf', es', hj', .inl rfl, fun i k d hd => ⟨d, hd, .inl rfl⟩⟩
theorem d5f {α : Type} {f : α → List AV} {sz b id2 : Nat} {s : AV} {l : List α} {r : List α} {a : α} {raw : List AV} (hs : b09 h s sz (List.map f l)) (hx : h.ob id2 = some (sz, [raw])) (hd : b0c s id2)
    (ha : ap b l [a] = some r) (hk : k (.rs h.nx 0 (List.length r)) (b5r h s (sz, List.map f l ++ [raw]))) : @c1z sz b s (.rs id2 0 1) h ⟨k⟩ := by
  obtain ⟨hb, rfl⟩ := c0x ha
  rw [List.length_append] at hk
  refine ⟨_, _, ?_, hk⟩
  simp only [eff, evT, if_true, Nat.one_ne_zero, if_false]
  have hb' : (l.length + 1) * b ≤ 2 ^ 40 := by simpa using hb
  rcases hs with ⟨rfl, hl⟩ | ⟨id, rfl, ho, hlt⟩
  · have hl' : l = [] := by simpa using hl
    subst hl'
    simp only [hx, Option.bind_some, List.map_nil, List.nil_append, List.length_nil, List.length_cons, Nat.zero_add, c3v, Nat.one_ne_zero, if_false]
    rw [if_pos ⟨trivial, by simp, by simpa using hb'⟩]
    simp
  · have hne : id ≠ id2 := hd
    simp only [ho, hx, Option.bind_some, List.length_map, c3w]
    rw [if_pos ⟨trivial, trivial, hne, by simp, by simp, hb'⟩]
    simp [List.take_of_length_le]
end
theorem g1h {h : Heap} {v : AV} {o : Ob} : (b5r h v o).nx = nxs h.nx := by cases v <;> rfl
theorem g1i {h : Heap} {v : AV} {o : Ob} {i : Nat} (hi : b0c v i) (hl : i < h.nx) : (b5r h v o).ob i = h.ob i := by
  unfold b5r
  split
  · rw [d04 (by exact hl), d1y]; exact fun e => hi e.symm
  · exact d04 hl
theorem g1g {h : Heap} {v : AV} {o : Ob} {i : Nat} (hl : i = h.nx) : (b5r h v o).ob i = some o := by
  unfold b5r
  split
  · exact d03 hl
  · exact d03 hl
theorem g45 {h : Heap} {v : AV} : (b7r h v).nx = h.nx := by cases v <;> rfl
attribute [go_sem ↓] g7t g8n g69 g75 g7d g79 g9g g8w g80 d6c d5e
attribute [go_sem] d6c d5e c3v c3w g1h c8d c8f g45 Nat.zero_add j6j j6i
end Go.Nw
namespace Go.Nw
theorem b4y {a : Value} {w : AV} : ∀ j, ¬ b0c (.v a) j → b0c w j := fun _ hj => (hj trivial).elim
theorem b4z {v : AV} {a : Value} : ∀ j, ¬ b0c v j → b0c (.v a) j := fun _ _ => trivial
theorem b41 {id lo n : Nat} {w : AV} (hw : b0c w id) : ∀ j, ¬ b0c (.rs id lo n) j → b0c w j := fun j hj => by
  have e : id = j := by simpa [b0c] using hj
  exact e ▸ hw
theorem b2d {O l b Q t h} (post : Slots → Heap → Prop) (h1 : ∀ K : Slots → Heap → Prop, (∀ t h, post t h → K t h) → b0g O l K t h) (h2 : ∀ t h, post t h → cw O b Q t h) : cw O (.seq (.reg l) b) Q t h :=
  g4d post (h1 post fun _ _ h => h) h2
theorem b5g {O l Q t h} (post : Slots → Heap → Prop) (h1 : ∀ K : Slots → Heap → Prop, (∀ t h, post t h → K t h) → b0g O l K t h) (h2 : ∀ t h, post t h → Q .normal t h) : cw O (.reg l) Q t h :=
  g4e post (h1 post fun _ _ h => h) h2
theorem b3m {α : Type} {f : α → List AV} {h : Heap} {v : AV} {sz : Nat} {l : List α} {i : Int} {x : α} (hv : b09 h v sz (List.map f l)) (hx : get l i = some x) : ∃ id, v = .rs id 0 (List.length l) ∧ h.ob id = some (sz, List.map f l) ∧ id < h.nx := by
  rcases hv with ⟨_, hr⟩ | ⟨id, h1, h2, h3⟩
  · have : l = [] := by simpa using hr
    subst this; have := b0x hx; have := b0w hx; simp at *; omega
  · exact ⟨id, by simpa using h1, h2, h3⟩
theorem b38 (x : Int) : (eI x).length = 1 := rfl
end Go.Nw
namespace Go.Nw
theorem b2e {h h' : Heap} {v : AV} {sz : Nat} {rows : List (List AV)} (hv : b09 h v sz rows) (hk : ∀ j, ¬ b0c v j → j < h.nx → h'.ob j = h.ob j) (hn : h.nx ≤ h'.nx) : b09 h' v sz rows := by
  rcases hv with ⟨rfl, hr⟩ | ⟨id, rfl, ho, hlt⟩
  · exact .inl ⟨rfl, hr⟩
  · exact .inr ⟨id, rfl, by rw [hk id (by simp [b0c]) hlt]; exact ho, by omega⟩
end Go.Nw
namespace Go.Nw
theorem b0b {a b : Nat} (h : ¬ a = b) : ¬ b = a := fun e => h e.symm
theorem b02 {α : Type} {c : Bool} {a b : α} (h : c = true) : (if c then a else b) = a := if_pos h
theorem b01 {α : Type} {c : Bool} {a b : α} (h : c = false) : (if c then a else b) = b := if_neg (by simp [h])
attribute [go_sem] d04 d03 d1y j7c g1i g1g List.length_map Bool.true_or Bool.or_true Bool.false_or Bool.or_false Bool.true_and Bool.and_true Bool.false_and Bool.and_false Bool.false_eq_true List.length_set
end Go.Nw
namespace Go.Nw
theorem b1y {v : AV} {i j : Nat} (hj : ¬ b0c v j) (hi : b0c v i) : ¬ j = i := fun e => hj (e ▸ hi)
theorem b4x {v u : AV} (h : ∀ j, ¬ b0c v j → b0c u j) : ∀ j, ¬ b0c u j → b0c v j := fun j hj => Classical.byContradiction fun hn => hj (h j hn)
end Go.Nw
namespace Go.Nw
theorem d3t {h : Heap} {f : String} {as bs cs ds : List AV} (ha : FzL h as bs) (hc : FzL h cs ds) : Fz h (.fn f as cs) (.fn f bs ds) := .fn f _ _ _ _ (b4r ha).1 (b4r ha).2 (b4r hc).1 (b4r hc).2
end Go.Nw
namespace Go.Nw
def mn (a b : Int) : Int := if b < a then b else a
def mx (a b : Int) : Int := if b > a then b else a
theorem d01 (a b : Int) : mn a b = min a b := by unfold mn; split <;> omega
def b9u (xs : List AV) [k : K1 AV] : Prop := ∃ r, b5v b8g xs = some r ∧ k.k r
def b9t (xs : List AV) [k : K1 AV] : Prop := ∃ r, b5v b8f xs = some r ∧ k.k r
section
variable {O : Orac} {d : Option Nat} {g : Nat} {b0 : Bool} {r : List XO} {K : Slots → Heap → Prop} {t : Slots} {h : Heap} {k : AV → Heap → Prop} {k1 : AV → Prop}
theorem g7r {xs} : b0g O (⟨d, none, .min xs⟩ :: r) K t h = @iop O (.min xs) t h ⟨fun v h' => b0g O r K (b0t t d v) h'⟩ := b24 rfl
theorem g8l {xs} : b0g O (⟨d, some (g, b0), .min xs⟩ :: r) K t h = @b21 (t g) b0 ⟨@iop O (.min xs) (upd t g (B b0)) h ⟨fun v h' => b0g O r K (b0t (upd t g (B b0)) d v) h'⟩⟩ ⟨b0g O r K (b0t (upd t g (B (!b0))) d U) h⟩ ⟨b0g O r K (b0t t d U) h⟩ := b25 rfl
theorem g7q {xs} : b0g O (⟨d, none, .max xs⟩ :: r) K t h = @iop O (.max xs) t h ⟨fun v h' => b0g O r K (b0t t d v) h'⟩ := b24 rfl
theorem g8k {xs} : b0g O (⟨d, some (g, b0), .max xs⟩ :: r) K t h = @b21 (t g) b0 ⟨@iop O (.max xs) (upd t g (B b0)) h ⟨fun v h' => b0g O r K (b0t (upd t g (B b0)) d v) h'⟩⟩ ⟨b0g O r K (b0t (upd t g (B (!b0))) d U) h⟩ ⟨b0g O r K (b0t t d U) h⟩ := b25 rfl
theorem g9e {xs} : @iop O (.min xs) t h ⟨k⟩ = @b9u (xs.map (evT t)) ⟨fun v => k v h⟩ := by
  simp only [iop, op1, b9u, eff, Option.map_eq_some_iff]
  apply propext; constructor
  · rintro ⟨r, h', ⟨x, h1, h2⟩, hk⟩; cases h2; exact ⟨_, h1, hk⟩
  · rintro ⟨r, h1, hk⟩; exact ⟨r, h, ⟨r, h1, rfl⟩, hk⟩
theorem g9d {xs} : @iop O (.max xs) t h ⟨k⟩ = @b9t (xs.map (evT t)) ⟨fun v => k v h⟩ := by
  simp only [iop, op1, b9t, eff, Option.map_eq_some_iff]
  apply propext; constructor
  · rintro ⟨r, h', ⟨x, h1, h2⟩, hk⟩; cases h2; exact ⟨_, h1, hk⟩
  · rintro ⟨r, h1, hk⟩; exact ⟨r, h, ⟨r, h1, rfl⟩, hk⟩
theorem d65 {a b : Int} {kd kd'} : @b9u [.v (.int kd a), .v (.int kd' b)] ⟨k1⟩ = k1 (.v (.int kd (mn a b))) := by
  simp [b9u, b5v, b8g, mn]
theorem d63 {a b : Int} {kd kd'} : @b9t [.v (.int kd a), .v (.int kd' b)] ⟨k1⟩ = k1 (.v (.int kd (mx a b))) := by
  simp [b9t, b5v, b8f, mx]
theorem d66 {a b c : Int} {kd kd' kd''} : @b9u [.v (.int kd a), .v (.int kd' b), .v (.int kd'' c)] ⟨k1⟩ = k1 (.v (.int kd (mn (mn a b) c))) := by
  simp [b9u, b5v, b8g, mn]
  exact Iff.rfl
theorem d64 {a b c : Int} {kd kd' kd''} : @b9t [.v (.int kd a), .v (.int kd' b), .v (.int kd'' c)] ⟨k1⟩ = k1 (.v (.int kd (mx (mx a b) c))) := by
  simp [b9t, b5v, b8f, mx]
theorem g7k {agg n o x} : b0g O (⟨d, none, .fld agg n o x⟩ :: r) K t h = @iop O (.fld agg n o x) t h ⟨fun v h' => b0g O r K (b0t t d v) h'⟩ := b24 rfl
theorem g8f {agg n o x} : b0g O (⟨d, some (g, b0), .fld agg n o x⟩ :: r) K t h = @b21 (t g) b0 ⟨@iop O (.fld agg n o x) (upd t g (B b0)) h ⟨fun v h' => b0g O r K (b0t (upd t g (B b0)) d v) h'⟩⟩ ⟨b0g O r K (b0t (upd t g (B (!b0))) d U) h⟩ ⟨b0g O r K (b0t t d U) h⟩ := b25 rfl
def c9x (agg : Bool) (n o : Nat) (x : AV) [k : K1 AV] : Prop := match x with | .agg cs => b5f agg n cs o k.k | _ => False
theorem g87 {agg n o x} : @iop O (.fld agg n o x) t h ⟨k⟩ = @c9x agg n o (evT t x) ⟨fun v => k v h⟩ := by
  simp only [iop, op1, c9x, eff]
  generalize evT t x = y
  cases y with
  | agg cs =>
    simp only [b5f, b46]
    cases agg with
    | true =>
      simp only [if_true]
      apply propext; constructor
      · rintro ⟨r, h', he, hk⟩; split at he
        · rename_i ho; cases he; exact ⟨ho, hk⟩
        · cases he
      · rintro ⟨h1, h2⟩; exact ⟨_, _, by rw [if_pos h1], h2⟩
    | false =>
      simp only [Bool.false_eq_true, if_false, Option.map_eq_some_iff]
      apply propext; constructor
      · rintro ⟨r, h', ⟨x, h1, h2⟩, hk⟩; cases h2; exact ⟨_, h1, hk⟩
      · rintro ⟨v, h1, h2⟩; exact ⟨v, h, ⟨v, h1, rfl⟩, h2⟩
  | _ => simp
theorem d6p {agg n o cs} : @c9x agg n o (.agg cs) ⟨k1⟩ = @c13 agg n cs o ⟨k1⟩ := rfl
end
def b54 (v : AV) (j : Nat) : Bool := match v with | .rs id _ _ => id == j | .rp id _ _ => id == j | _ => false
theorem g19 {h : Heap} {F : Nat → Bool} {j : Nat} (hj : F j = false) : (h.but F).ob j = h.ob j := by simp [Heap.but, hj]
theorem g18 {h : Heap} {F : Nat → Bool} : (h.but F).nx = h.nx := by simp [Heap.but]
theorem b6k {h : Heap} {F : Nat → Bool} {j : Nat} (hj : F j = true) : (h.only F).ob j = h.ob j := by simp [Heap.only, hj]
theorem c5w {h : Heap} {F : Nat → Bool} {v : AV} {sz : Nat} {rows : List (List AV)} (hv : b09 h v sz rows) (hF : ∀ j, ¬ b0c v j → F j = true) : b09 (h.only F) v sz rows := by
  rcases hv with ⟨rfl, hr⟩ | ⟨id, rfl, ho, hlt⟩
  · exact .inl ⟨rfl, hr⟩
  · exact .inr ⟨id, rfl, by rw [b6k (hF id (by simp [b0c]))]; exact ho, hlt⟩
theorem d3i {O : Orac} {b : XCode} {Q : XExit → Slots → Heap → Prop} {t : Slots} {h : Heap} {s : Nat} {v y : AV} (F : Nat → Bool) (hs : t s = v) (hz : Fz (h.only F) v y) (hf : Frz y)
    (hw : cw O b Q (upd t s y) (h.but F)) : cw O (.seq .ghost b) Q t h := by
  subst hs
  exact c04 (c8h (.inr ⟨hz, hf⟩)) hw
theorem d3j {O : Orac} {Q : XExit → Slots → Heap → Prop} {t : Slots} {h : Heap} (hw : cw O (.seq .ghost .skip) Q t h) : cw O .ghost Q t h := hw
inductive FzR (h : Heap) : List (List AV) → List (List AV) → Prop
  | nil : FzR h [] []
  | cons {x y : List AV} {xs ys : List (List AV)} (a : FzL h x y) (b : FzR h xs ys) : FzR h (x :: xs) (y :: ys)
theorem d3v {h : Heap} {xs ys : List (List AV)} (hz : FzR h xs ys) : xs.length = ys.length ∧ ∀ (i j : Nat) c d, at2 xs i j = some c → at2 ys i j = some d → Fz h c d := by
  induction hz with
  | nil => exact ⟨rfl, fun i j c d hc => by simp [at2] at hc⟩
  | cons a _ ih =>
    refine ⟨by simp [ih.1], fun i j c d hc hd => ?_⟩
    cases i with
    | zero => simp [at2] at hc hd; exact (b4r a).2 j c d hc hd
    | succ i => exact ih.2 i j c d (by simpa [at2] using hc) (by simpa [at2] using hd)
theorem g5a {h : Heap} {id n sz : Nat} {rows rows' : List (List AV)} (ho : h.ob id = some (sz, rows)) (hn : n = rows.length) (hz : FzR h rows rows') (hl : ∀ d ∈ rows', d.length = sz) : Fz h (.rs id 0 n) (.fs sz rows') := by
  subst hn
  refine .rs id 0 _ sz _ _ ho (by simp) (d3v hz).1.symm hl (fun i j c d h1 h2 => ?_)
  rw [Nat.zero_add] at h1
  exact (d3v hz).2 i j c d h1 h2
attribute [go_sem ↓] g7r g8l g7q g8k g9e g9d g7k g8f g87 d65 d63 d66 d64 d6p
attribute [go_sem] d65 d63 d66 d64 d6p g18 g19
end Go.Nw
namespace Go.Nw
theorem c0l {v : AV} {j : Nat} (hj : ¬ b0c v j) : b54 v j = true := by
  unfold b0c at hj; unfold b54
  split at hj
  · simpa using hj
  · simp at hj
end Go.Nw
namespace Go.Nw
def sub {α : Type} (l : List α) (a b : Int) : Option (List α) := if 0 ≤ a ∧ a ≤ b ∧ b ≤ l.length then some ((l.take b.toNat).drop a.toNat) else none
theorem j6v {α : Type} {l r : List α} {a b : Int} (h : sub l a b = some r) : 0 ≤ a ∧ a ≤ b ∧ b ≤ l.length ∧ r = (l.take b.toNat).drop a.toNat := by
  unfold sub at h; split at h
  · rename_i hc; cases h; exact ⟨hc.1, hc.2.1, hc.2.2, rfl⟩
  · cases h
def d7i (n : Nat) (x : AV) (lo hi : Option AV) (h : Heap) [k : K2] : Prop := ∃ (r' : AV) (h' : Heap), ((b3e x).bind fun len =>
    (b5e 0 lo).bind fun l =>
    (b5k len hi).bind fun r =>
    if l ≤ r then
      match x with
      | .fs sz es => if sz = n then some (.fs sz ((es.take r).drop l), h) else none
      | .rs id lo' _ => (h.ob id).bind fun o => if (l = 0 ∨ l < r) ∧ o.1 = n then some (.rs id (lo' + l) (r - l), h) else none
      | _ => none
    else none) = some (r', h') ∧ k.k r' h'
section
variable {O : Orac} {d : Option Nat} {g : Nat} {b0 : Bool} {r : List XO} {K : Slots → Heap → Prop} {t : Slots} {h : Heap} {k : AV → Heap → Prop}
theorem g7x {n x lo hi} : b0g O (⟨d, none, .slc n x lo hi⟩ :: r) K t h = @iop O (.slc n x lo hi) t h ⟨fun v h' => b0g O r K (b0t t d v) h'⟩ := b24 rfl
theorem g8r {n x lo hi} : b0g O (⟨d, some (g, b0), .slc n x lo hi⟩ :: r) K t h = @b21 (t g) b0 ⟨@iop O (.slc n x lo hi) (upd t g (B b0)) h ⟨fun v h' => b0g O r K (b0t (upd t g (B b0)) d v) h'⟩⟩ ⟨b0g O r K (b0t (upd t g (B (!b0))) d U) h⟩ ⟨b0g O r K (b0t t d U) h⟩ := b25 rfl
theorem g9k {n x lo hi} : @iop O (.slc n x lo hi) t h ⟨k⟩ = @d7i n (evT t x) (lo.map (evT t)) (hi.map (evT t)) h ⟨k⟩ := rfl
theorem d7j {α : Type} {f : α → List AV} {n : Nat} {l m : List α} {lo hi : Option Int} (hs : sub l (lo.getD 0) (hi.getD l.length) = some m) (hk : k (.fs n (List.map f m)) h) : @d7i n (.fs n (List.map f l)) (lo.map fun z => I z) (hi.map fun z => I z) h ⟨k⟩ := by
  obtain ⟨h0, h1, h2, rfl⟩ := j6v hs
  refine ⟨_, _, ?_, hk⟩
  have hb : b5e 0 (lo.map fun z => I z) = some (lo.getD 0).toNat := by
    cases lo with
    | none => rfl
    | some y => have h0' : 0 ≤ y := h0; show (if 0 ≤ y then some y.toNat else none) = some y.toNat; rw [if_pos h0']
  have hh : b5k (List.map f l).length (hi.map fun z => I z) = some (hi.getD l.length).toNat := by
    rw [List.length_map]
    cases hi with
    | none => show some l.length = some (Int.toNat l.length); simp
    | some z =>
      have h1' : 0 ≤ z := by have := h0; have := h1; simp only [Option.getD_some] at *; omega
      have h2' : z ≤ l.length := h2
      show (if 0 ≤ z ∧ z.toNat ≤ l.length then some z.toNat else none) = some z.toNat
      rw [if_pos ⟨h1', by omega⟩]
  simp only [b3e, Option.bind_some, hb, hh]
  rw [if_pos (by omega), if_pos trivial, List.map_drop, List.map_take]
end
attribute [go_sem ↓] g7x g8r g9k
attribute [go_sem] Option.map_none
end Go.Nw
namespace Go.Nw
theorem b1s {h : Heap} {v : AV} {sz : Nat} {rows : List (List AV)} {j : Nat} (hv : b09 h v sz rows) (hj : b0c v j) : b54 v j = false := by
  rcases hv with ⟨rfl, _⟩ | ⟨id, rfl, _, _⟩
  · rfl
  · simpa [b54, b0c] using hj
end Go.Nw
namespace Go.Nw
def d2q (k : IntKind) (a b : Int) : Int := k.wrap (BitVec.ofInt k.bits a &&& BitVec.ofInt k.bits b).toNat
def d2u (k : IntKind) (a b : Int) : Int := k.wrap (BitVec.ofInt k.bits a ||| BitVec.ofInt k.bits b).toNat
def d2v (k : IntKind) (a b : Int) : Int := k.wrap (BitVec.ofInt k.bits a ^^^ BitVec.ofInt k.bits b).toNat
def d2r (k : IntKind) (a b : Int) : Int := k.wrap (BitVec.ofInt k.bits a &&& ~~~(BitVec.ofInt k.bits b)).toNat
def d2s (k : IntKind) (a : Int) : Int := k.wrap (BitVec.ofInt k.bits (if k.signed then -1 else k.max) ^^^ BitVec.ofInt k.bits a).toNat
def j6l (k : IntKind) (a b : Int) : Int := k.wrap (a * 2 ^ (Nat.min b.toNat k.bits))
def j6m (k : IntKind) (a b : Int) : Int := a.fdiv (2 ^ (Nat.min b.toNat k.bits))
def shl (k : IntKind) (a b : Int) : Option Int := if b < 0 then none else some (j6l k a b)
def shr (k : IntKind) (a b : Int) : Option Int := if b < 0 then none else some (j6m k a b)
def quo (k : IntKind) (a b : Int) : Option Int := if b = 0 then none else some (k.wrap (a.tdiv b))
def rem (a b : Int) : Option Int := if b = 0 then none else some (a.tmod b)
section
variable {k : AV → Prop} {e : EqK} {kd kd' : IntKind} {a b : Int}
theorem d5h : @b3a .and e (.v (.int kd a)) (.v (.int kd b)) ⟨k⟩ = k (.v (.int kd (d2q kd a b))) := b4g (by simp [b32, b3x, d2q])
theorem d50 : @b3a .or e (.v (.int kd a)) (.v (.int kd b)) ⟨k⟩ = k (.v (.int kd (d2u kd a b))) := b4g (by simp [b32, b3x, d2u])
theorem d53 : @b3a .xor e (.v (.int kd a)) (.v (.int kd b)) ⟨k⟩ = k (.v (.int kd (d2v kd a b))) := b4g (by simp [b32, b3x, d2v])
theorem d5k : @b3a .andNot e (.v (.int kd a)) (.v (.int kd b)) ⟨k⟩ = k (.v (.int kd (d2r kd a b))) := b4g (by simp [b32, b3x, d2r])
theorem d51 {r : Int} (h : rem a b = some r) : @b3a .rem e (.v (.int kd a)) (.v (.int kd b)) ⟨k⟩ = k (.v (.int kd r)) := by
  unfold rem at h; split at h
  · cases h
  · rename_i hb; cases h
    exact b4g (by simp [b32, b3x, hb])
theorem d7o : @iun .xor (.v (.int kd a)) ⟨k⟩ = k (.v (.int kd (d2s kd a))) := by
  show unK _ _ _ = _
  simp [unK, b8p, d2s]
end
def c9v (kd : IntKind) (x : AV) [k : K1 AV] : Prop := match x with | .v (.int _ n) => k.k (.v (.int kd (kd.wrap n))) | _ => False
section
variable {O : Orac} {d : Option Nat} {g : Nat} {b0 : Bool} {r : List XO} {K : Slots → Heap → Prop} {t : Slots} {h : Heap} {k : AV → Heap → Prop} {k1 : AV → Prop}
theorem g7i {kd x} : b0g O (⟨d, none, .cvtI kd x⟩ :: r) K t h = @iop O (.cvtI kd x) t h ⟨fun v h' => b0g O r K (b0t t d v) h'⟩ := b24 rfl
theorem g8d {kd x} : b0g O (⟨d, some (g, b0), .cvtI kd x⟩ :: r) K t h = @b21 (t g) b0 ⟨@iop O (.cvtI kd x) (upd t g (B b0)) h ⟨fun v h' => b0g O r K (b0t (upd t g (B b0)) d v) h'⟩⟩ ⟨b0g O r K (b0t (upd t g (B (!b0))) d U) h⟩ ⟨b0g O r K (b0t t d U) h⟩ := b25 rfl
theorem g85 {kd x} : @iop O (.cvtI kd x) t h ⟨k⟩ = @c9v kd (evT t x) ⟨fun v => k v h⟩ := by
  simp only [iop, op1, c9v, eff]
  generalize evT t x = y
  cases y with
  | v z =>
    cases z with
    | int k' n => exact ex1
    | _ => exact ex0
  | _ => exact ex0
theorem d6l {kd kd' : IntKind} {n : Int} : @c9v kd (.v (.int kd' n)) ⟨k1⟩ = k1 (.v (.int kd (kd.wrap n))) := rfl
end
attribute [go_sem ↓] g7i g8d g85 d6l d5h d50 d53 d5k d7o
attribute [go_sem] d6l d5h d50 d53 d5k d7o
end Go.Nw
namespace Go.Nw
theorem d5m {k : AV → Prop} {a b c d : Int} : @b3a .eql (.flat [.i, .i]) (.agg [I a, I b]) (.agg [I c, I d]) ⟨k⟩ = k (B (decide (a = c) && decide (b = d))) := by
  show b2s _ _ _ _ _ = _
  by_cases h1 : a = c <;> by_cases h2 : b = d <;> simp [b2s, b4c, b3b, b5i, h1, h2]
theorem d5u {k : AV → Prop} {a b c d : Int} : @b3a .neq (.flat [.i, .i]) (.agg [I a, I b]) (.agg [I c, I d]) ⟨k⟩ = k (B (!(decide (a = c) && decide (b = d)))) := by
  show b2s _ _ _ _ _ = _
  by_cases h1 : a = c <;> by_cases h2 : b = d <;> simp [b2s, b4c, b3b, b5i, h1, h2]
theorem d5n {k : AV → Prop} {a b c d x y : Int} : @b3a .eql (.flat [.i, .i, .i]) (.agg [I a, I b, I x]) (.agg [I c, I d, I y]) ⟨k⟩ = k (B (decide (a = c) && decide (b = d) && decide (x = y))) := by
  show b2s _ _ _ _ _ = _
  by_cases h1 : a = c <;> by_cases h2 : b = d <;> by_cases h3 : x = y <;> simp [b2s, b4c, b3b, b5i, h1, h2, h3]
theorem d5v {k : AV → Prop} {a b c d x y : Int} : @b3a .neq (.flat [.i, .i, .i]) (.agg [I a, I b, I x]) (.agg [I c, I d, I y]) ⟨k⟩ = k (B (!(decide (a = c) && decide (b = d) && decide (x = y)))) := by
  show b2s _ _ _ _ _ = _
  by_cases h1 : a = c <;> by_cases h2 : b = d <;> by_cases h3 : x = y <;> simp [b2s, b4c, b3b, b5i, h1, h2, h3]
theorem d5w {k : AV → Prop} : @b3a .eql .slice (.v (.slice none 0 0)) (.v (.slice none 0 0)) ⟨k⟩ = k (B true) := by
  show b2s _ _ _ _ _ = _
  simp [b2s, b4c, b3b, b9v]
theorem d5y {k : AV → Prop} : @b3a .neq .slice (.v (.slice none 0 0)) (.v (.slice none 0 0)) ⟨k⟩ = k (B false) := by
  show b2s _ _ _ _ _ = _
  simp [b2s, b4c, b3b, b9v]
theorem d5x {k : AV → Prop} {a b c : Nat} : @b3a .eql .slice (.rs a b c) (.v (.slice none 0 0)) ⟨k⟩ = k (B false) := by
  show b2s _ _ _ _ _ = _
  simp [b2s, b4c, b3b, b9v]
theorem d5z {k : AV → Prop} {a b c : Nat} : @b3a .neq .slice (.rs a b c) (.v (.slice none 0 0)) ⟨k⟩ = k (B true) := by
  show b2s _ _ _ _ _ = _
  simp [b2s, b4c, b3b, b9v]
attribute [go_sem ↓] d5m d5u d5n d5v d5w d5y d5x d5z
attribute [go_sem] d5m d5u d5n d5v d5w d5y d5x d5z
theorem g70 {O : Orac} {f : String} {as as' : List AV} {r : AV} {h : Heap} {k : AV → Heap → Prop} (hz : FzL h as as') (ha : ∀ a ∈ as, Frz a) (hf : Fn O f as' r) (hk : k r h) : @c12 O f as h ⟨k⟩ :=
  ⟨r, h, ⟨as', r, [], [], hz, hf.o, .inl ha, .frz r hf.r, rfl, fun k sz es hh => by simp at hh, rfl⟩, hk⟩
theorem c8e {h0 h : Heap} {v : AV} {sz i : Nat} {rows : List (List AV)} (hv : b09 h0 v sz rows) (hi : b0c v i) : (b7r h v).ob i = h.ob i := by
  rcases hv with ⟨rfl, _⟩ | ⟨id, rfl, _, _⟩
  · rfl
  · exact d1y fun e => hi e.symm
attribute [go_sem] beq_self_eq_true eq_self
theorem nxa {a b : Nat} : (nxs a = nxs b) = (a = b) := by simp [nxs]
theorem nxb {a b : Nat} : (nxs a < nxs b) = (a < b) := by simp [nxs]
theorem j2j {n : Nat} : (n < nxs n) = True := by simp only [nxs, eq_iff_iff, iff_true]; omega
theorem j2z {i n : Nat} (h : i < n) : (i < nxs n) = True := by simp only [nxs, eq_iff_iff, iff_true]; omega
theorem j0n {n : Nat} : (n = nxs n) = False := by simp only [nxs, eq_iff_iff, iff_false]; omega
theorem j03 {n : Nat} : (nxs n = n) = False := by simp only [nxs, eq_iff_iff, iff_false]; omega
theorem j1k {i n : Nat} (h : i < n) : (i = nxs n) = False := by simp only [nxs, eq_iff_iff, iff_false]; omega
theorem j11 {i n : Nat} (h : i < n) : (nxs n = i) = False := by simp only [nxs, eq_iff_iff, iff_false]; omega
theorem j2r {n : Nat} : (n < nxs (nxs n)) = True := by simp only [nxs, eq_iff_iff, iff_true]; omega
theorem j27 {i n : Nat} (h : i < n) : (i < nxs (nxs n)) = True := by simp only [nxs, eq_iff_iff, iff_true]; omega
theorem j0v {n : Nat} : (n = nxs (nxs n)) = False := by simp only [nxs, eq_iff_iff, iff_false]; omega
theorem j1b {n : Nat} : (nxs (nxs n) = n) = False := by simp only [nxs, eq_iff_iff, iff_false]; omega
theorem j1s {i n : Nat} (h : i < n) : (i = nxs (nxs n)) = False := by simp only [nxs, eq_iff_iff, iff_false]; omega
theorem j19 {i n : Nat} (h : i < n) : (nxs (nxs n) = i) = False := by simp only [nxs, eq_iff_iff, iff_false]; omega
theorem j2s {n : Nat} : (n < nxs (nxs (nxs n))) = True := by simp only [nxs, eq_iff_iff, iff_true]; omega
theorem j28 {i n : Nat} (h : i < n) : (i < nxs (nxs (nxs n))) = True := by simp only [nxs, eq_iff_iff, iff_true]; omega
theorem j0w {n : Nat} : (n = nxs (nxs (nxs n))) = False := by simp only [nxs, eq_iff_iff, iff_false]; omega
theorem j1c {n : Nat} : (nxs (nxs (nxs n)) = n) = False := by simp only [nxs, eq_iff_iff, iff_false]; omega
theorem j1t {i n : Nat} (h : i < n) : (i = nxs (nxs (nxs n))) = False := by simp only [nxs, eq_iff_iff, iff_false]; omega
theorem j2a {i n : Nat} (h : i < n) : (nxs (nxs (nxs n)) = i) = False := by simp only [nxs, eq_iff_iff, iff_false]; omega
theorem j2t {n : Nat} : (n < nxs (nxs (nxs (nxs n)))) = True := by simp only [nxs, eq_iff_iff, iff_true]; omega
theorem j29 {i n : Nat} (h : i < n) : (i < nxs (nxs (nxs (nxs n)))) = True := by simp only [nxs, eq_iff_iff, iff_true]; omega
theorem j0x {n : Nat} : (n = nxs (nxs (nxs (nxs n)))) = False := by simp only [nxs, eq_iff_iff, iff_false]; omega
theorem j1d {n : Nat} : (nxs (nxs (nxs (nxs n))) = n) = False := by simp only [nxs, eq_iff_iff, iff_false]; omega
theorem j1u {i n : Nat} (h : i < n) : (i = nxs (nxs (nxs (nxs n)))) = False := by simp only [nxs, eq_iff_iff, iff_false]; omega
theorem j2b {i n : Nat} (h : i < n) : (nxs (nxs (nxs (nxs n))) = i) = False := by simp only [nxs, eq_iff_iff, iff_false]; omega
theorem j2u {n : Nat} : (n < nxs (nxs (nxs (nxs (nxs n))))) = True := by simp only [nxs, eq_iff_iff, iff_true]; omega
theorem j3a {i n : Nat} (h : i < n) : (i < nxs (nxs (nxs (nxs (nxs n))))) = True := by simp only [nxs, eq_iff_iff, iff_true]; omega
theorem j0y {n : Nat} : (n = nxs (nxs (nxs (nxs (nxs n))))) = False := by simp only [nxs, eq_iff_iff, iff_false]; omega
theorem j1e {n : Nat} : (nxs (nxs (nxs (nxs (nxs n)))) = n) = False := by simp only [nxs, eq_iff_iff, iff_false]; omega
theorem j1v {i n : Nat} (h : i < n) : (i = nxs (nxs (nxs (nxs (nxs n))))) = False := by simp only [nxs, eq_iff_iff, iff_false]; omega
theorem j2c {i n : Nat} (h : i < n) : (nxs (nxs (nxs (nxs (nxs n)))) = i) = False := by simp only [nxs, eq_iff_iff, iff_false]; omega
theorem j2v {n : Nat} : (n < nxs (nxs (nxs (nxs (nxs (nxs n)))))) = True := by simp only [nxs, eq_iff_iff, iff_true]; omega
theorem j3b {i n : Nat} (h : i < n) : (i < nxs (nxs (nxs (nxs (nxs (nxs n)))))) = True := by simp only [nxs, eq_iff_iff, iff_true]; omega
theorem j0z {n : Nat} : (n = nxs (nxs (nxs (nxs (nxs (nxs n)))))) = False := by simp only [nxs, eq_iff_iff, iff_false]; omega
theorem j1f {n : Nat} : (nxs (nxs (nxs (nxs (nxs (nxs n))))) = n) = False := by simp only [nxs, eq_iff_iff, iff_false]; omega
theorem j1w {i n : Nat} (h : i < n) : (i = nxs (nxs (nxs (nxs (nxs (nxs n)))))) = False := by simp only [nxs, eq_iff_iff, iff_false]; omega
theorem j2d {i n : Nat} (h : i < n) : (nxs (nxs (nxs (nxs (nxs (nxs n))))) = i) = False := by simp only [nxs, eq_iff_iff, iff_false]; omega
theorem j2w {n : Nat} : (n < nxs (nxs (nxs (nxs (nxs (nxs (nxs n))))))) = True := by simp only [nxs, eq_iff_iff, iff_true]; omega
theorem j3c {i n : Nat} (h : i < n) : (i < nxs (nxs (nxs (nxs (nxs (nxs (nxs n))))))) = True := by simp only [nxs, eq_iff_iff, iff_true]; omega
theorem j00 {n : Nat} : (n = nxs (nxs (nxs (nxs (nxs (nxs (nxs n))))))) = False := by simp only [nxs, eq_iff_iff, iff_false]; omega
theorem j1g {n : Nat} : (nxs (nxs (nxs (nxs (nxs (nxs (nxs n)))))) = n) = False := by simp only [nxs, eq_iff_iff, iff_false]; omega
theorem j1x {i n : Nat} (h : i < n) : (i = nxs (nxs (nxs (nxs (nxs (nxs (nxs n))))))) = False := by simp only [nxs, eq_iff_iff, iff_false]; omega
theorem j2e {i n : Nat} (h : i < n) : (nxs (nxs (nxs (nxs (nxs (nxs (nxs n)))))) = i) = False := by simp only [nxs, eq_iff_iff, iff_false]; omega
theorem j2x {n : Nat} : (n < nxs (nxs (nxs (nxs (nxs (nxs (nxs (nxs n)))))))) = True := by simp only [nxs, eq_iff_iff, iff_true]; omega
theorem j3d {i n : Nat} (h : i < n) : (i < nxs (nxs (nxs (nxs (nxs (nxs (nxs (nxs n)))))))) = True := by simp only [nxs, eq_iff_iff, iff_true]; omega
theorem j01 {n : Nat} : (n = nxs (nxs (nxs (nxs (nxs (nxs (nxs (nxs n)))))))) = False := by simp only [nxs, eq_iff_iff, iff_false]; omega
theorem j1h {n : Nat} : (nxs (nxs (nxs (nxs (nxs (nxs (nxs (nxs n))))))) = n) = False := by simp only [nxs, eq_iff_iff, iff_false]; omega
theorem j1y {i n : Nat} (h : i < n) : (i = nxs (nxs (nxs (nxs (nxs (nxs (nxs (nxs n)))))))) = False := by simp only [nxs, eq_iff_iff, iff_false]; omega
theorem j2f {i n : Nat} (h : i < n) : (nxs (nxs (nxs (nxs (nxs (nxs (nxs (nxs n))))))) = i) = False := by simp only [nxs, eq_iff_iff, iff_false]; omega
theorem j2y {n : Nat} : (n < nxs (nxs (nxs (nxs (nxs (nxs (nxs (nxs (nxs n))))))))) = True := by simp only [nxs, eq_iff_iff, iff_true]; omega
theorem j3e {i n : Nat} (h : i < n) : (i < nxs (nxs (nxs (nxs (nxs (nxs (nxs (nxs (nxs n))))))))) = True := by simp only [nxs, eq_iff_iff, iff_true]; omega
theorem j02 {n : Nat} : (n = nxs (nxs (nxs (nxs (nxs (nxs (nxs (nxs (nxs n))))))))) = False := by simp only [nxs, eq_iff_iff, iff_false]; omega
theorem j1i {n : Nat} : (nxs (nxs (nxs (nxs (nxs (nxs (nxs (nxs (nxs n)))))))) = n) = False := by simp only [nxs, eq_iff_iff, iff_false]; omega
theorem j1z {i n : Nat} (h : i < n) : (i = nxs (nxs (nxs (nxs (nxs (nxs (nxs (nxs (nxs n))))))))) = False := by simp only [nxs, eq_iff_iff, iff_false]; omega
theorem j2g {i n : Nat} (h : i < n) : (nxs (nxs (nxs (nxs (nxs (nxs (nxs (nxs (nxs n)))))))) = i) = False := by simp only [nxs, eq_iff_iff, iff_false]; omega
theorem j2k {n : Nat} : (n < nxs (nxs (nxs (nxs (nxs (nxs (nxs (nxs (nxs (nxs n)))))))))) = True := by simp only [nxs, eq_iff_iff, iff_true]; omega
theorem j20 {i n : Nat} (h : i < n) : (i < nxs (nxs (nxs (nxs (nxs (nxs (nxs (nxs (nxs (nxs n)))))))))) = True := by simp only [nxs, eq_iff_iff, iff_true]; omega
theorem j0o {n : Nat} : (n = nxs (nxs (nxs (nxs (nxs (nxs (nxs (nxs (nxs (nxs n)))))))))) = False := by simp only [nxs, eq_iff_iff, iff_false]; omega
theorem j04 {n : Nat} : (nxs (nxs (nxs (nxs (nxs (nxs (nxs (nxs (nxs (nxs n))))))))) = n) = False := by simp only [nxs, eq_iff_iff, iff_false]; omega
theorem j1l {i n : Nat} (h : i < n) : (i = nxs (nxs (nxs (nxs (nxs (nxs (nxs (nxs (nxs (nxs n)))))))))) = False := by simp only [nxs, eq_iff_iff, iff_false]; omega
theorem j12 {i n : Nat} (h : i < n) : (nxs (nxs (nxs (nxs (nxs (nxs (nxs (nxs (nxs (nxs n))))))))) = i) = False := by simp only [nxs, eq_iff_iff, iff_false]; omega
theorem j2l {n : Nat} : (n < nxs (nxs (nxs (nxs (nxs (nxs (nxs (nxs (nxs (nxs (nxs n))))))))))) = True := by simp only [nxs, eq_iff_iff, iff_true]; omega
theorem j21 {i n : Nat} (h : i < n) : (i < nxs (nxs (nxs (nxs (nxs (nxs (nxs (nxs (nxs (nxs (nxs n))))))))))) = True := by simp only [nxs, eq_iff_iff, iff_true]; omega
theorem j0p {n : Nat} : (n = nxs (nxs (nxs (nxs (nxs (nxs (nxs (nxs (nxs (nxs (nxs n))))))))))) = False := by simp only [nxs, eq_iff_iff, iff_false]; omega
theorem j05 {n : Nat} : (nxs (nxs (nxs (nxs (nxs (nxs (nxs (nxs (nxs (nxs (nxs n)))))))))) = n) = False := by simp only [nxs, eq_iff_iff, iff_false]; omega
theorem j1m {i n : Nat} (h : i < n) : (i = nxs (nxs (nxs (nxs (nxs (nxs (nxs (nxs (nxs (nxs (nxs n))))))))))) = False := by simp only [nxs, eq_iff_iff, iff_false]; omega
theorem j13 {i n : Nat} (h : i < n) : (nxs (nxs (nxs (nxs (nxs (nxs (nxs (nxs (nxs (nxs (nxs n)))))))))) = i) = False := by simp only [nxs, eq_iff_iff, iff_false]; omega
theorem j2m {n : Nat} : (n < nxs (nxs (nxs (nxs (nxs (nxs (nxs (nxs (nxs (nxs (nxs (nxs n)))))))))))) = True := by simp only [nxs, eq_iff_iff, iff_true]; omega
theorem j22 {i n : Nat} (h : i < n) : (i < nxs (nxs (nxs (nxs (nxs (nxs (nxs (nxs (nxs (nxs (nxs (nxs n)))))))))))) = True := by simp only [nxs, eq_iff_iff, iff_true]; omega
theorem j0q {n : Nat} : (n = nxs (nxs (nxs (nxs (nxs (nxs (nxs (nxs (nxs (nxs (nxs (nxs n)))))))))))) = False := by simp only [nxs, eq_iff_iff, iff_false]; omega
theorem j06 {n : Nat} : (nxs (nxs (nxs (nxs (nxs (nxs (nxs (nxs (nxs (nxs (nxs (nxs n))))))))))) = n) = False := by simp only [nxs, eq_iff_iff, iff_false]; omega
theorem j1n {i n : Nat} (h : i < n) : (i = nxs (nxs (nxs (nxs (nxs (nxs (nxs (nxs (nxs (nxs (nxs (nxs n)))))))))))) = False := by simp only [nxs, eq_iff_iff, iff_false]; omega
theorem j14 {i n : Nat} (h : i < n) : (nxs (nxs (nxs (nxs (nxs (nxs (nxs (nxs (nxs (nxs (nxs (nxs n))))))))))) = i) = False := by simp only [nxs, eq_iff_iff, iff_false]; omega
theorem j2n {n : Nat} : (n < nxs (nxs (nxs (nxs (nxs (nxs (nxs (nxs (nxs (nxs (nxs (nxs (nxs n))))))))))))) = True := by simp only [nxs, eq_iff_iff, iff_true]; omega
theorem j23 {i n : Nat} (h : i < n) : (i < nxs (nxs (nxs (nxs (nxs (nxs (nxs (nxs (nxs (nxs (nxs (nxs (nxs n))))))))))))) = True := by simp only [nxs, eq_iff_iff, iff_true]; omega
theorem j0r {n : Nat} : (n = nxs (nxs (nxs (nxs (nxs (nxs (nxs (nxs (nxs (nxs (nxs (nxs (nxs n))))))))))))) = False := by simp only [nxs, eq_iff_iff, iff_false]; omega
theorem j07 {n : Nat} : (nxs (nxs (nxs (nxs (nxs (nxs (nxs (nxs (nxs (nxs (nxs (nxs (nxs n)))))))))))) = n) = False := by simp only [nxs, eq_iff_iff, iff_false]; omega
theorem j1o {i n : Nat} (h : i < n) : (i = nxs (nxs (nxs (nxs (nxs (nxs (nxs (nxs (nxs (nxs (nxs (nxs (nxs n))))))))))))) = False := by simp only [nxs, eq_iff_iff, iff_false]; omega
theorem j15 {i n : Nat} (h : i < n) : (nxs (nxs (nxs (nxs (nxs (nxs (nxs (nxs (nxs (nxs (nxs (nxs (nxs n)))))))))))) = i) = False := by simp only [nxs, eq_iff_iff, iff_false]; omega
theorem j2o {n : Nat} : (n < nxs (nxs (nxs (nxs (nxs (nxs (nxs (nxs (nxs (nxs (nxs (nxs (nxs (nxs n)))))))))))))) = True := by simp only [nxs, eq_iff_iff, iff_true]; omega
theorem j24 {i n : Nat} (h : i < n) : (i < nxs (nxs (nxs (nxs (nxs (nxs (nxs (nxs (nxs (nxs (nxs (nxs (nxs (nxs n)))))))))))))) = True := by simp only [nxs, eq_iff_iff, iff_true]; omega
theorem j0s {n : Nat} : (n = nxs (nxs (nxs (nxs (nxs (nxs (nxs (nxs (nxs (nxs (nxs (nxs (nxs (nxs n)))))))))))))) = False := by simp only [nxs, eq_iff_iff, iff_false]; omega
theorem j08 {n : Nat} : (nxs (nxs (nxs (nxs (nxs (nxs (nxs (nxs (nxs (nxs (nxs (nxs (nxs (nxs n))))))))))))) = n) = False := by simp only [nxs, eq_iff_iff, iff_false]; omega
theorem j1p {i n : Nat} (h : i < n) : (i = nxs (nxs (nxs (nxs (nxs (nxs (nxs (nxs (nxs (nxs (nxs (nxs (nxs (nxs n)))))))))))))) = False := by simp only [nxs, eq_iff_iff, iff_false]; omega
theorem j16 {i n : Nat} (h : i < n) : (nxs (nxs (nxs (nxs (nxs (nxs (nxs (nxs (nxs (nxs (nxs (nxs (nxs (nxs n))))))))))))) = i) = False := by simp only [nxs, eq_iff_iff, iff_false]; omega
theorem j2p {n : Nat} : (n < nxs (nxs (nxs (nxs (nxs (nxs (nxs (nxs (nxs (nxs (nxs (nxs (nxs (nxs (nxs n))))))))))))))) = True := by simp only [nxs, eq_iff_iff, iff_true]; omega
theorem j25 {i n : Nat} (h : i < n) : (i < nxs (nxs (nxs (nxs (nxs (nxs (nxs (nxs (nxs (nxs (nxs (nxs (nxs (nxs (nxs n))))))))))))))) = True := by simp only [nxs, eq_iff_iff, iff_true]; omega
theorem j0t {n : Nat} : (n = nxs (nxs (nxs (nxs (nxs (nxs (nxs (nxs (nxs (nxs (nxs (nxs (nxs (nxs (nxs n))))))))))))))) = False := by simp only [nxs, eq_iff_iff, iff_false]; omega
theorem j09 {n : Nat} : (nxs (nxs (nxs (nxs (nxs (nxs (nxs (nxs (nxs (nxs (nxs (nxs (nxs (nxs (nxs n)))))))))))))) = n) = False := by simp only [nxs, eq_iff_iff, iff_false]; omega
theorem j1q {i n : Nat} (h : i < n) : (i = nxs (nxs (nxs (nxs (nxs (nxs (nxs (nxs (nxs (nxs (nxs (nxs (nxs (nxs (nxs n))))))))))))))) = False := by simp only [nxs, eq_iff_iff, iff_false]; omega
theorem j17 {i n : Nat} (h : i < n) : (nxs (nxs (nxs (nxs (nxs (nxs (nxs (nxs (nxs (nxs (nxs (nxs (nxs (nxs (nxs n)))))))))))))) = i) = False := by simp only [nxs, eq_iff_iff, iff_false]; omega
theorem j2q {n : Nat} : (n < nxs (nxs (nxs (nxs (nxs (nxs (nxs (nxs (nxs (nxs (nxs (nxs (nxs (nxs (nxs (nxs n)))))))))))))))) = True := by simp only [nxs, eq_iff_iff, iff_true]; omega
theorem j26 {i n : Nat} (h : i < n) : (i < nxs (nxs (nxs (nxs (nxs (nxs (nxs (nxs (nxs (nxs (nxs (nxs (nxs (nxs (nxs (nxs n)))))))))))))))) = True := by simp only [nxs, eq_iff_iff, iff_true]; omega
theorem j0u {n : Nat} : (n = nxs (nxs (nxs (nxs (nxs (nxs (nxs (nxs (nxs (nxs (nxs (nxs (nxs (nxs (nxs (nxs n)))))))))))))))) = False := by simp only [nxs, eq_iff_iff, iff_false]; omega
theorem j1a {n : Nat} : (nxs (nxs (nxs (nxs (nxs (nxs (nxs (nxs (nxs (nxs (nxs (nxs (nxs (nxs (nxs (nxs n))))))))))))))) = n) = False := by simp only [nxs, eq_iff_iff, iff_false]; omega
theorem j1r {i n : Nat} (h : i < n) : (i = nxs (nxs (nxs (nxs (nxs (nxs (nxs (nxs (nxs (nxs (nxs (nxs (nxs (nxs (nxs (nxs n)))))))))))))))) = False := by simp only [nxs, eq_iff_iff, iff_false]; omega
theorem j18 {i n : Nat} (h : i < n) : (nxs (nxs (nxs (nxs (nxs (nxs (nxs (nxs (nxs (nxs (nxs (nxs (nxs (nxs (nxs (nxs n))))))))))))))) = i) = False := by simp only [nxs, eq_iff_iff, iff_false]; omega
theorem j1j {i : Nat} {h : Heap} (hl : i < h.nx) : (i = h.nx) = False := by simp only [eq_iff_iff, iff_false]; omega
theorem j10 {i : Nat} {h : Heap} (hl : i < h.nx) : (h.nx = i) = False := by simp only [eq_iff_iff, iff_false]; omega
attribute [go_sem] nxa nxb j2j j2z j0n j03 j1k j11 j2r j27 j0v j1b j1s j19 j2s j28 j0w j1c j1t j2a j2t j29 j0x j1d j1u j2b j2u j3a j0y j1e j1v j2c j2v j3b j0z j1f j1w j2d j2w j3c j00 j1g j1x j2e j2x j3d j01 j1h j1y j2f j2y j3e j02 j1i j1z j2g j2k j20 j0o j04 j1l j12 j2l j21 j0p j05 j1m j13 j2m j22 j0q j06 j1n j14 j2n j23 j0r j07 j1o j15 j2o j24 j0s j08 j1p j16 j2p j25 j0t j09 j1q j17 j2q j26 j0u j1a j1r j18 j1j j10
end Go.Nw
