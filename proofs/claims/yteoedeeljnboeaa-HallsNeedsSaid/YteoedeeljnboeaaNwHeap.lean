/- Own objects: rules for what makes, reads, writes and hands them over. -/
import Derived.Test.YteoedeeljnboeaaNwModel
set_option linter.all false
set_option linter.unusedVariables false
set_option linter.unusedSimpArgs false
set_option linter.unusedSectionVars false
namespace Go.Nw
theorem d10 {h : Heap} {o : Ob} {i : Nat} (hl : i < h.nx) : (h.new o).ob i = h.ob i := by
  simp only [Heap.new]; rw [if_neg (by omega)]
theorem d1z {h : Heap} {o : Ob} {i : Nat} (hl : i = h.nx) : (h.new o).ob i = some o := by
  simp only [Heap.new]; rw [if_pos hl]
theorem d2z {h : Heap} {o : Option Ob} {i j : Nat} (hl : ¬ i = j) : (h.upd j o).ob i = h.ob i := by
  simp only [Heap.upd]; rw [if_neg hl]
theorem j9r {h : Heap} {o : Option Ob} {i j : Nat} (hl : i = j) : (h.upd j o).ob i = o := by
  simp only [Heap.upd]; rw [if_pos hl]
theorem d6a {p : Prop} : @b5m True ⟨p⟩ = p := by simp [b5m]
theorem b0w {α : Type} {f : α → List AV} {l : List α} {i : Int} {x : α} {sz : Nat} {k : Nat → List (List AV) → List AV → Prop} (hx : get l i = some x) :
    @c6h (some (sz, List.map f l)) i.toNat ⟨k⟩ = k sz (List.map f l) (f x) := by
  show b8h _ _ _ = _
  simp only [d96, List.getElem?_map, b6c hx, Option.map_some, Option.some.injEq]
  apply propext; constructor
  · rintro ⟨_, rfl, hk⟩; exact hk
  · exact fun hk => ⟨_, rfl, hk⟩
theorem j82 {l : List Int} {n : Nat} {v : Int} : (List.map eI l).set n [I v] = List.map eI (l.set n v) := by rw [List.map_set]; rfl
theorem j81 {l : List Bool} {n : Nat} {v : Bool} : (List.map eB l).set n [B v] = List.map eB (l.set n v) := by rw [List.map_set]; rfl
def mks {α : Type} (b : Nat) (n : Int) (z : α) : Option (List α) := if 0 ≤ n ∧ n * b ≤ 2 ^ 47 ∧ n < 2 ^ 63 then some (List.replicate n.toNat z) else none
theorem d1w {α : Type} {b : Nat} {n : Int} {z : α} {l : List α} (h : mks b n z = some l) : 0 ≤ n ∧ n * b ≤ 2 ^ 47 ∧ n < 2 ^ 63 ∧ l = List.replicate n.toNat z := by
  unfold mks at h; split at h
  · rename_i hc; cases h; exact ⟨hc.1, hc.2.1, hc.2.2, rfl⟩
  · cases h
theorem d8z {α : Type} {b : Nat} {n : Int} {z : α} (h0 : 0 ≤ n) (h1 : n * b ≤ 2 ^ 47) (h2 : n < 2 ^ 63) : mks b n z = some (List.replicate n.toNat z) := by
  unfold mks; rw [if_pos ⟨h0, h1, h2⟩]
def ap {α : Type} (b : Nat) (l m : List α) : Option (List α) := if (l.length + m.length) * b ≤ 2 ^ 40 then some (l ++ m) else none
theorem c48 {α : Type} {b : Nat} {l m r : List α} (h : ap b l m = some r) : (l.length + m.length) * b ≤ 2 ^ 40 ∧ r = l ++ m := by
  unfold ap at h; split at h
  · rename_i hc; cases h; exact ⟨hc, rfl⟩
  · cases h
theorem b3v {α : Type} {b : Nat} {l m : List α} (h : (l.length + m.length) * b ≤ 2 ^ 40) : ap b l m = some (l ++ m) := by
  unfold ap; rw [if_pos h]
def c6d (sz : Nat) (zs : List Value) (b : Nat) (l c : AV) (h : Heap) [k : K2] : Prop := ∃ r h', eff (.mksl sz zs b (.t 0) (.t 1)) (evT fun i => if i = 0 then l else c) h = some (r, h') ∧ k.k r h'
def c3i (sz b : Nat) (s x : AV) (h : Heap) [k : K2] : Prop := ∃ r h', eff (.app sz b (.t 0) (.t 1)) (evT fun i => if i = 0 then s else x) h = some (r, h') ∧ k.k r h'
def d0u (sz : Nat) (vs : List AV) (h : Heap) [k : K2] : Prop := (vs.all fun x => b2x x && (cellsOf x).length == sz) = true ∧ k.k (.rs h.nx 0 vs.length) (h.new (sz, vs.map cellsOf))
section
variable {O : Orac} {d : Option Nat} {g : Nat} {b0 : Bool} {r : List XO} {K : Slots → Heap → Prop} {t : Slots} {h : Heap} {k : AV → Heap → Prop}
theorem g9r {sz zs b l c} : b0g O (⟨d, none, .mksl sz zs b l c⟩ :: r) K t h = @iop O (.mksl sz zs b l c) t h ⟨fun v h' => b0g O r K (b0s t d v) h'⟩ := b3a rfl
theorem j0l {sz zs b l c} : b0g O (⟨d, some (g, b0), .mksl sz zs b l c⟩ :: r) K t h = @b25 (t g) b0 ⟨@iop O (.mksl sz zs b l c) (upd t g (B b0)) h ⟨fun v h' => b0g O r K (b0s (upd t g (B b0)) d v) h'⟩⟩ ⟨b0g O r K (b0s (upd t g (B (!b0))) d U) h⟩ ⟨b0g O r K (b0s t d U) h⟩ := b3c rfl
theorem g87 {sz b s x} : b0g O (⟨d, none, .app sz b s x⟩ :: r) K t h = @iop O (.app sz b s x) t h ⟨fun v h' => b0g O r K (b0s t d v) h'⟩ := b3a rfl
theorem g93 {sz b s x} : b0g O (⟨d, some (g, b0), .app sz b s x⟩ :: r) K t h = @b25 (t g) b0 ⟨@iop O (.app sz b s x) (upd t g (B b0)) h ⟨fun v h' => b0g O r K (b0s (upd t g (B b0)) d v) h'⟩⟩ ⟨b0g O r K (b0s (upd t g (B (!b0))) d U) h⟩ ⟨b0g O r K (b0s t d U) h⟩ := b3c rfl
theorem g9b {sz vs} : b0g O (⟨d, none, .bsl sz vs⟩ :: r) K t h = @iop O (.bsl sz vs) t h ⟨fun v h' => b0g O r K (b0s t d v) h'⟩ := b3a rfl
theorem g97 {sz vs} : b0g O (⟨d, some (g, b0), .bsl sz vs⟩ :: r) K t h = @b25 (t g) b0 ⟨@iop O (.bsl sz vs) (upd t g (B b0)) h ⟨fun v h' => b0g O r K (b0s (upd t g (B b0)) d v) h'⟩⟩ ⟨b0g O r K (b0s (upd t g (B (!b0))) d U) h⟩ ⟨b0g O r K (b0s t d U) h⟩ := b3c rfl
theorem j1e {sz zs b l c} : @iop O (.mksl sz zs b l c) t h ⟨k⟩ = @c6d sz zs b (evT t l) (evT t c) h ⟨k⟩ := by
  simp only [iop, op1, c6d, eff, evT, if_true, Nat.one_ne_zero, if_false]
theorem j0u {sz b s x} : @iop O (.app sz b s x) t h ⟨k⟩ = @c3i sz b (evT t s) (evT t x) h ⟨k⟩ := by
  simp only [iop, op1, c3i, eff, evT, if_true, Nat.one_ne_zero, if_false]
theorem j0y {sz vs} : @iop O (.bsl sz vs) t h ⟨k⟩ = @d0u sz (vs.map (evT t)) h ⟨k⟩ := by
  simp only [iop, op1, d0u, eff, List.length_map]
  apply propext; constructor
  · rintro ⟨r, h', he, hk⟩
    split at he
    · rename_i hc; cases he; exact ⟨hc, hk⟩
    · cases he
  · rintro ⟨hc, hk⟩
    exact ⟨_, _, by rw [if_pos hc], hk⟩
theorem d67 {sz vs} : @d0u sz vs h ⟨k⟩ = @b5m ((vs.all fun x => b2x x && (cellsOf x).length == sz) = true) ⟨k (.rs h.nx 0 vs.length) (h.new (sz, vs.map cellsOf))⟩ := rfl
theorem b76 {α : Type} {f : α → List AV} {z : α} {sz : Nat} {zs : List Value} {b : Nat} {n : Int} {l : List α} (hz : zs.map .v = f z) (hm : mks b n z = some l)
    (hk : k (.rs h.nx 0 (List.length l)) (h.new (sz, List.map f l))) : @c6d sz zs b (I n) (I n) h ⟨k⟩ := by
  obtain ⟨h0, h1, h2, rfl⟩ := d1w hm
  rw [List.length_replicate, List.map_replicate, ← hz] at hk
  refine ⟨_, _, ?_, hk⟩
  simp only [eff, evT, if_true, Nat.one_ne_zero, if_false]
  rw [if_pos ⟨trivial, h0, h1, h2⟩]
def b6o (h : Heap) (v : AV) (o : Ob) : Heap := (match v with | .rs id _ _ => h.upd id none | _ => h).new o
theorem c5a {a : Option Addr} {b c : Nat} {o : Ob} : b6o h (.v (.slice a b c)) o = h.new o := rfl
theorem c5b {id lo len : Nat} {o : Ob} : b6o h (.rs id lo len) o = (h.upd id none).new o := rfl
def b0l (h : Heap) (v : AV) (sz : Nat) (rows : List (List AV)) : Prop := (v = .v (.slice none 0 0) ∧ rows = []) ∨ ∃ id, v = .rs id 0 rows.length ∧ h.ob id = some (sz, rows) ∧ id < h.nx
def c8q (h : Heap) (v : AV) (sz : Nat) (rows : List (List AV)) : Prop := v = .fs sz rows ∨ ∃ id, v = .rs id 0 rows.length ∧ h.ob id = some (sz, rows)
def b0a (v : AV) (i : Nat) : Prop := match v with | .rs id _ _ => ¬ id = i | _ => True
theorem b4b {α : Type} {f : α → List AV} {sz b : Nat} {s x : AV} {l m r : List α} (hs : b0l h s sz (List.map f l)) (hx : c8q h x sz (List.map f m)) (hd : ∀ i, ¬ b0a s i → b0a x i) (hn : s = .v (.slice none 0 0) → ¬ m = [])
    (ha : ap b l m = some r) (hk : k (.rs h.nx 0 (List.length r)) (b6o h s (sz, List.map f r))) : @c3i sz b s x h ⟨k⟩ := by
  obtain ⟨hb, rfl⟩ := c48 ha
  rw [List.length_append, List.map_append] at hk
  refine ⟨_, _, ?_, hk⟩
  simp only [eff, evT, if_true, Nat.one_ne_zero, if_false]
  rcases hs with ⟨rfl, hl⟩ | ⟨id, rfl, ho, hlt⟩
  · have hl' : l = [] := by simpa using hl
    subst hl'
    have hm : ¬ m.length = 0 := fun e => hn rfl (List.length_eq_zero_iff.1 e)
    rcases hx with rfl | ⟨id2, rfl, ho2⟩
    · simp only [List.length_map, hm, if_false, List.map_nil, List.nil_append, List.length_nil, Nat.zero_add, c5a]
      rw [if_pos ⟨trivial, by simpa using hb⟩]
    · simp only [ho2, Option.bind_some, List.length_map, hm, if_false, List.map_nil, List.nil_append, List.length_nil, Nat.zero_add, c5a]
      rw [if_pos ⟨trivial, by simp, by simpa using hb⟩]
      simp [List.take_of_length_le]
  · rcases hx with rfl | ⟨id2, rfl, ho2⟩
    · simp only [ho, Option.bind_some, List.length_map, c5b]
      rw [if_pos ⟨trivial, trivial, by simp, hb⟩]
      simp [List.take_of_length_le]
    · have hne : id ≠ id2 := fun e => hd id (by simp [b0a]) e.symm
      simp only [ho, ho2, Option.bind_some, List.length_map, c5b]
      rw [if_pos ⟨trivial, trivial, hne, by simp, by simp, hb⟩]
      simp [List.take_of_length_le]
theorem j7c {sz : Nat} : b0l h (.v (.slice none 0 0)) sz [] := .inl ⟨rfl, rfl⟩
theorem b6j {α : Type} {f : α → List AV} {sz : Nat} : b0l h (.v (.slice none 0 0)) sz (List.map f []) := .inl ⟨rfl, rfl⟩
theorem b3i {id n sz : Nat} {rows : List (List AV)} (ho : h.ob id = some (sz, rows)) (hl : n = rows.length) (hn : id < h.nx) : b0l h (.rs id 0 n) sz rows := .inr ⟨id, by rw [hl], ho, hn⟩
theorem b4l {id n sz : Nat} {rows : List (List AV)} (ho : h.ob id = some (sz, rows)) (hl : n = rows.length) : c8q h (.rs id 0 n) sz rows := .inr ⟨id, by rw [hl], ho⟩
theorem j7e {sz : Nat} {rows : List (List AV)} : c8q h (.fs sz rows) sz rows := .inl rfl
theorem b2v {s : AV} {id lo n : Nat} (hs : b0a s id) : ∀ i, ¬ b0a s i → b0a (.rs id lo n) i := fun i hi e => hi (e ▸ hs)
theorem j2p {s : AV} {sz : Nat} {rows : List (List AV)} : ∀ i, ¬ b0a s i → b0a (.fs sz rows) i := fun _ _ => trivial
theorem b1d {a : Value} {i : Nat} : b0a (.v a) i := trivial
theorem b1e {id lo n i : Nat} (hl : ¬ id = i) : b0a (.rs id lo n) i := hl
theorem b0z {v : AV} {sz : Nat} {rows : List (List AV)} (hv : b0l h v sz rows) {i : Nat} (hi : h.nx ≤ i) : b0a v i := by
  rcases hv with ⟨rfl, _⟩ | ⟨id, rfl, _, hlt⟩
  · trivial
  · exact fun e => by omega
theorem c0a {es : List (List AV)} {i j : Nat} {c : AV} (h : at2 es i j = some c) : ∃ e, es[i]? = some e ∧ e[j]? = some c := by
  unfold at2 at h
  cases he : es[i]? with
  | none => simp [he] at h
  | some e => exact ⟨e, rfl, by rw [he] at h; exact h⟩
theorem b5j {α : Type} {f : α → List AV} {v : AV} {sz : Nat} {l : List α} (hv : b0l h v sz (List.map f l)) (hf : ∀ a, ∀ c ∈ f a, Frz c) (hl : ∀ a, (f a).length = sz) : Fz h v (.fs sz (List.map f l)) := by
  rcases hv with ⟨rfl, hr⟩ | ⟨id, rfl, ho, _⟩
  · rw [hr]; exact .nil sz
  · refine .rs id 0 _ sz _ _ ho (by simp) rfl (fun d hd => ?_) (fun i j c d h1 h2 => ?_)
    · obtain ⟨a, _, rfl⟩ := List.mem_map.1 hd; exact hl a
    · rw [Nat.zero_add] at h1
      rw [h1] at h2; cases h2
      obtain ⟨e, he, hc⟩ := c0a h1
      obtain ⟨a, _, rfl⟩ := List.mem_map.1 (List.mem_of_getElem? he)
      exact .refl _ (hf a _ (List.mem_of_getElem? hc))
theorem b6u {α : Type} {f : α → List AV} {id n sz : Nat} {l : List α} (ho : h.ob id = some (sz, List.map f l)) (hn : n = List.length l) (hf : ∀ a, ∀ c ∈ f a, Frz c) (hl : ∀ a, (f a).length = sz) : Fz h (.rs id 0 n) (.fs sz (List.map f l)) := by
  subst hn
  refine .rs id 0 _ sz _ _ ho (by simp) (by simp) (fun d hd => ?_) (fun i j c d h1 h2 => ?_)
  · obtain ⟨a, _, rfl⟩ := List.mem_map.1 hd; exact hl a
  · rw [Nat.zero_add] at h1
    rw [h1] at h2; cases h2
    obtain ⟨e, he, hc⟩ := c0a h1
    obtain ⟨a, _, rfl⟩ := List.mem_map.1 (List.mem_of_getElem? he)
    exact .refl _ (hf a _ (List.mem_of_getElem? hc))
theorem b6b {xs ys : List AV} (hz : FzL h xs ys) : xs.length = ys.length ∧ ∀ (i : Nat) c d, xs[i]? = some c → ys[i]? = some d → Fz h c d := by
  induction hz with
  | nil => exact ⟨rfl, fun i c d hc => by simp at hc⟩
  | cons a _ ih =>
    refine ⟨by simp [ih.1], fun i c d hc hd => ?_⟩
    cases i with
    | zero => simp at hc hd; subst hc; subst hd; exact a
    | succ i => simp at hc hd; exact ih.2 i c d hc hd
theorem g66 {xs ys : List AV} (hz : FzL h xs ys) : Fz h (.tup xs) (.tup ys) := .tup _ _ (b6b hz).1 (b6b hz).2
theorem c24 {xs ys : List AV} (hz : FzL h xs ys) : Fz h (.agg xs) (.agg ys) := .agg _ _ (b6b hz).1 (b6b hz).2
theorem d4o {id sz : Nat} {xs ys : List AV} (ho : h.ob id = some (sz, [xs])) (hz : FzL h xs ys) : Fz h (.rp id 0 0) (.fp ys 0) := .rp id 0 0 sz _ _ _ ho rfl (b6b hz).1 (b6b hz).2
theorem c87 {n : Nat} {v r : AV} (ht : t n = v) (hz : Fz h v r) : b53 [.t n] r [] ⟨t, h⟩ := by
  subst ht; exact .inl ⟨rfl, [t n], rfl, hz⟩
theorem g6f {n m : Nat} {v r u s : AV} (ht : t n = v) (hu : t m = u) (hz : Fz h v r) (hz' : Fz h u s) : b53 [.t n, .t m] (.tup [r, s]) [] ⟨t, h⟩ := by
  subst ht; subst hu; exact .inl ⟨rfl, [t n, t m], rfl, g66 (.cons hz (.cons hz' .nil))⟩
theorem c2v {n sz id m : Nat} {cs : List AV} {r : AV} (ht : t n = .rp id 0 0) (ho : h.ob id = some (m, [cs])) (hl : cs.length = sz) (hz : Fz h (.agg cs) r) : b53 [.cell n true sz] r [] ⟨t, h⟩ := by
  refine .inl ⟨rfl, [.agg cs], ?_, hz⟩
  subst hl
  simp [b5a, eff, St.ev, ht, ho]
theorem c5k {b : XCode} {Q : XExit → Slots → Heap → Prop} {t' : Slots} {h' : Heap} (hg : c2g ⟨t, h⟩ ⟨t', h'⟩) (hw : cw O b Q t' h') : cw O (.seq .ghost b) Q t h := ⟨⟨t', h'⟩, hg, hw⟩
def b8z (h : Heap) (v : AV) : Heap := match v with | .rs id _ _ => h.upd id none | .rp id _ _ => h.upd id none | _ => h
theorem g38 {id : Nat} : h.upd id none = h.but (· == id) := by
  simp only [Heap.upd, Heap.but, Heap.mk.injEq, and_true]
  funext j; by_cases e : j = id <;> simp [e]
theorem g35 : h = h.but fun _ => false := by simp [Heap.but]
theorem c9l {F : Nat → Bool} {s : Nat} {y : AV} (hc : c2f (h.only F) (t s) y) : c2g ⟨t, h⟩ ⟨upd t s y, h.but F⟩ := by
  refine ⟨F, rfl, rfl, fun id sz es' ho => ?_, fun j => ?_⟩
  · have ho' : (if F id then none else h.ob id) = some (sz, es') := ho
    split at ho'
    · cases ho'
    · rename_i hf
      exact ⟨by simpa using hf, es', ho', .inl rfl, fun i j d hd => ⟨d, hd, .inl rfl⟩⟩
  · show c2f _ (t j) (upd t s y j)
    by_cases e : j = s
    · subst e; rw [g02]; exact hc
    · rw [g01 e]; exact .inl rfl
theorem g57 {b : XCode} {Q : XExit → Slots → Heap → Prop} (hw : cw O b Q t h) : cw O (.seq .ghost b) Q t h :=
  c5k ⟨fun _ => false, rfl, rfl, fun id sz es' ho => ⟨rfl, es', ho, .inl rfl, fun i j d hd => ⟨d, hd, .inl rfl⟩⟩, fun _ => .inl rfl⟩ hw
theorem c5l {α : Type} {f : α → List AV} {b : XCode} {Q : XExit → Slots → Heap → Prop} {s : Nat} {v : AV} {sz : Nat} {l : List α} (hs : t s = v) (hv : b0l h v sz (List.map f l)) (hf : ∀ a, ∀ c ∈ f a, Frz c) (hl : ∀ a, (f a).length = sz)
    (hw : cw O b Q (upd t s (.fs sz (List.map f l))) (b8z h v)) : cw O (.seq .ghost b) Q t h := by
  subst hs
  have hfr : Frz (.fs sz (List.map f l)) := .fs _ _ fun e he c hc => by obtain ⟨a, _, rfl⟩ := List.mem_map.1 he; exact hf a c hc
  rcases hv with ⟨hv, hr⟩ | ⟨id, hv, ho, hlt⟩
  · refine c5k (h' := b8z h (t s)) ?_ hw
    rw [hv]
    have := c9l (t := t) (h := h) (F := fun _ => false) (s := s) (y := .fs sz (List.map f l)) (.inr ⟨by rw [hv, hr]; exact .nil sz, hfr⟩)
    rw [← g35] at this
    exact this
  · refine c5k (h' := b8z h (t s)) ?_ hw
    rw [hv]
    have := c9l (t := t) (h := h) (F := (· == id)) (s := s) (y := .fs sz (List.map f l)) (.inr ⟨by rw [hv]; exact b6u (by simp [Heap.only, ho]) (by simp) hf hl, hfr⟩)
    rw [← g38] at this
    exact this
theorem c5q {a : Value} : b8z h (.v a) = h := rfl
theorem c5r {id lo n : Nat} : b8z h (.rs id lo n) = h.upd id none := rfl
theorem g84 {α : Type} {f : α → List AV} {sz b id2 : Nat} {s : AV} {l : List α} {r : List α} {a : α} {raw : List AV} (hs : b0l h s sz (List.map f l)) (hx : h.ob id2 = some (sz, [raw])) (hd : b0a s id2)
    (ha : ap b l [a] = some r) (hk : k (.rs h.nx 0 (List.length r)) (b6o h s (sz, List.map f l ++ [raw]))) : @c3i sz b s (.rs id2 0 1) h ⟨k⟩ := by
  obtain ⟨hb, rfl⟩ := c48 ha
  rw [List.length_append] at hk
  refine ⟨_, _, ?_, hk⟩
  simp only [eff, evT, if_true, Nat.one_ne_zero, if_false]
  have hb' : (l.length + 1) * b ≤ 2 ^ 40 := by simpa using hb
  rcases hs with ⟨rfl, hl⟩ | ⟨id, rfl, ho, hlt⟩
  · have hl' : l = [] := by simpa using hl
    subst hl'
    simp only [hx, Option.bind_some, List.map_nil, List.nil_append, List.length_nil, List.length_cons, Nat.zero_add, c5a, Nat.one_ne_zero, if_false]
    rw [if_pos ⟨trivial, by simp, by simpa using hb'⟩]
    simp
  · have hne : id ≠ id2 := hd
    simp only [ho, hx, Option.bind_some, List.length_map, c5b]
    rw [if_pos ⟨trivial, trivial, hne, by simp, by simp, hb'⟩]
    simp [List.take_of_length_le]
end
theorem g22 {h : Heap} {v : AV} {o : Ob} : (b6o h v o).nx = nxs h.nx := by cases v <;> rfl
theorem g23 {h : Heap} {v : AV} {o : Ob} {i : Nat} (hi : b0a v i) (hl : i < h.nx) : (b6o h v o).ob i = h.ob i := by
  unfold b6o
  split
  · rw [d10 (by exact hl), d2z]; exact fun e => hi e.symm
  · exact d10 hl
theorem g21 {h : Heap} {v : AV} {o : Ob} {i : Nat} (hl : i = h.nx) : (b6o h v o).ob i = some o := by
  unfold b6o
  split
  · exact d1z hl
  · exact d1z hl
theorem g60 {h : Heap} {v : AV} : (b8z h v).nx = h.nx := by cases v <;> rfl
attribute [go_sem ↓] g9r j0l g87 g93 g9b g97 j1e j0u j0y d67 d6a
attribute [go_sem] d67 d6a c5a c5b g22 c5q c5r g60 Nat.zero_add j82 j81
end Go.Nw
namespace Go.Nw
theorem b38 {a : Value} {w : AV} : ∀ j, ¬ b0a (.v a) j → b0a w j := fun _ hj => (hj trivial).elim
theorem b39 {v : AV} {a : Value} : ∀ j, ¬ b0a v j → b0a (.v a) j := fun _ _ => trivial
theorem b4a {id lo n : Nat} {w : AV} (hw : b0a w id) : ∀ j, ¬ b0a (.rs id lo n) j → b0a w j := fun j hj => by
  have e : id = j := by simpa [b0a] using hj
  exact e ▸ hw
theorem b2t {O l b Q t h} (post : Slots → Heap → Prop) (h1 : ∀ K : Slots → Heap → Prop, (∀ t h, post t h → K t h) → b0g O l K t h) (h2 : ∀ t h, post t h → cw O b Q t h) : cw O (.seq (.reg l) b) Q t h :=
  g6a post (h1 post fun _ _ h => h) h2
theorem b8t {O l Q t h} (post : Slots → Heap → Prop) (h1 : ∀ K : Slots → Heap → Prop, (∀ t h, post t h → K t h) → b0g O l K t h) (h2 : ∀ t h, post t h → Q .normal t h) : cw O (.reg l) Q t h :=
  g6b post (h1 post fun _ _ h => h) h2
theorem b6i {α : Type} {f : α → List AV} {h : Heap} {v : AV} {sz : Nat} {l : List α} {i : Int} {x : α} (hv : b0l h v sz (List.map f l)) (hx : get l i = some x) : ∃ id, v = .rs id 0 (List.length l) ∧ h.ob id = some (sz, List.map f l) ∧ id < h.nx := by
  rcases hv with ⟨_, hr⟩ | ⟨id, h1, h2, h3⟩
  · have : l = [] := by simpa using hr
    subst this; have := b09 hx; have := b06 hx; simp at *; omega
  · exact ⟨id, by simpa using h1, h2, h3⟩
theorem b6x (x : Int) : (eI x).length = 1 := rfl
end Go.Nw
namespace Go.Nw
theorem b1j {h h' : Heap} {v : AV} {sz : Nat} {rows : List (List AV)} (hv : b0l h v sz rows) (hk : ∀ j, ¬ b0a v j → j < h.nx → h'.ob j = h.ob j) (hn : h.nx ≤ h'.nx) : b0l h' v sz rows := by
  rcases hv with ⟨rfl, hr⟩ | ⟨id, rfl, ho, hlt⟩
  · exact .inl ⟨rfl, hr⟩
  · exact .inr ⟨id, rfl, by rw [hk id (by simp [b0a]) hlt]; exact ho, by omega⟩
end Go.Nw
namespace Go.Nw
theorem b0c {a b : Nat} (h : ¬ a = b) : ¬ b = a := fun e => h e.symm
theorem b1b {α : Type} {c : Bool} {a b : α} (h : c = true) : (if c then a else b) = a := if_pos h
theorem b1a {α : Type} {c : Bool} {a b : α} (h : c = false) : (if c then a else b) = b := if_neg (by simp [h])
attribute [go_sem] d10 d1z d2z j9r g23 g21 List.length_map Bool.true_or Bool.or_true Bool.false_or Bool.or_false Bool.true_and Bool.and_true Bool.false_and Bool.and_false Bool.false_eq_true List.length_set
end Go.Nw
namespace Go.Nw
theorem b1g {v : AV} {i j : Nat} (hj : ¬ b0a v j) (hi : b0a v i) : ¬ j = i := fun e => hj (e ▸ hi)
theorem b20 {v u : AV} (h : ∀ j, ¬ b0a v j → b0a u j) : ∀ j, ¬ b0a u j → b0a v j := fun j hj => Classical.byContradiction fun hn => hj (h j hn)
end Go.Nw
namespace Go.Nw
theorem g64 {h : Heap} {f : String} {as bs cs ds : List AV} (ha : FzL h as bs) (hc : FzL h cs ds) : Fz h (.fn f as cs) (.fn f bs ds) := .fn f _ _ _ _ (b6b ha).1 (b6b ha).2 (b6b hc).1 (b6b hc).2
end Go.Nw
namespace Go.Nw
def mn (a b : Int) : Int := if b < a then b else a
def mx (a b : Int) : Int := if b > a then b else a
theorem c1d (a b : Int) : mn a b = min a b := by unfold mn; split <;> omega
theorem b9k (a b : Int) : mx a b = max a b := by unfold mx; split <;> omega
def c08 (xs : List AV) [k : K1 AV] : Prop := ∃ r, b6r b9j xs = some r ∧ k.k r
def c07 (xs : List AV) [k : K1 AV] : Prop := ∃ r, b6r b9i xs = some r ∧ k.k r
section
variable {O : Orac} {d : Option Nat} {g : Nat} {b0 : Bool} {r : List XO} {K : Slots → Heap → Prop} {t : Slots} {h : Heap} {k : AV → Heap → Prop} {k1 : AV → Prop}
theorem g9p {xs} : b0g O (⟨d, none, .min xs⟩ :: r) K t h = @iop O (.min xs) t h ⟨fun v h' => b0g O r K (b0s t d v) h'⟩ := b3a rfl
theorem j0j {xs} : b0g O (⟨d, some (g, b0), .min xs⟩ :: r) K t h = @b25 (t g) b0 ⟨@iop O (.min xs) (upd t g (B b0)) h ⟨fun v h' => b0g O r K (b0s (upd t g (B b0)) d v) h'⟩⟩ ⟨b0g O r K (b0s (upd t g (B (!b0))) d U) h⟩ ⟨b0g O r K (b0s t d U) h⟩ := b3c rfl
theorem g9o {xs} : b0g O (⟨d, none, .max xs⟩ :: r) K t h = @iop O (.max xs) t h ⟨fun v h' => b0g O r K (b0s t d v) h'⟩ := b3a rfl
theorem j0i {xs} : b0g O (⟨d, some (g, b0), .max xs⟩ :: r) K t h = @b25 (t g) b0 ⟨@iop O (.max xs) (upd t g (B b0)) h ⟨fun v h' => b0g O r K (b0s (upd t g (B b0)) d v) h'⟩⟩ ⟨b0g O r K (b0s (upd t g (B (!b0))) d U) h⟩ ⟨b0g O r K (b0s t d U) h⟩ := b3c rfl
theorem j1c {xs} : @iop O (.min xs) t h ⟨k⟩ = @c08 (xs.map (evT t)) ⟨fun v => k v h⟩ := by
  simp only [iop, op1, c08, eff, Option.map_eq_some_iff]
  apply propext; constructor
  · rintro ⟨r, h', ⟨x, h1, h2⟩, hk⟩; cases h2; exact ⟨_, h1, hk⟩
  · rintro ⟨r, h1, hk⟩; exact ⟨r, h, ⟨r, h1, rfl⟩, hk⟩
theorem j1b {xs} : @iop O (.max xs) t h ⟨k⟩ = @c07 (xs.map (evT t)) ⟨fun v => k v h⟩ := by
  simp only [iop, op1, c07, eff, Option.map_eq_some_iff]
  apply propext; constructor
  · rintro ⟨r, h', ⟨x, h1, h2⟩, hk⟩; cases h2; exact ⟨_, h1, hk⟩
  · rintro ⟨r, h1, hk⟩; exact ⟨r, h, ⟨r, h1, rfl⟩, hk⟩
theorem d70 {a b : Int} {kd kd'} : @c08 [.v (.int kd a), .v (.int kd' b)] ⟨k1⟩ = k1 (.v (.int kd (mn a b))) := by
  simp [c08, b6r, b9j, mn]
theorem d7y {a b : Int} {kd kd'} : @c07 [.v (.int kd a), .v (.int kd' b)] ⟨k1⟩ = k1 (.v (.int kd (mx a b))) := by
  simp [c07, b6r, b9i, mx]
theorem d71 {a b c : Int} {kd kd' kd''} : @c08 [.v (.int kd a), .v (.int kd' b), .v (.int kd'' c)] ⟨k1⟩ = k1 (.v (.int kd (mn (mn a b) c))) := by
  simp [c08, b6r, b9j, mn]
  exact Iff.rfl
theorem d7z {a b c : Int} {kd kd' kd''} : @c07 [.v (.int kd a), .v (.int kd' b), .v (.int kd'' c)] ⟨k1⟩ = k1 (.v (.int kd (mx (mx a b) c))) := by
  simp [c07, b6r, b9i, mx]
theorem g9i {agg n o x} : b0g O (⟨d, none, .fld agg n o x⟩ :: r) K t h = @iop O (.fld agg n o x) t h ⟨fun v h' => b0g O r K (b0s t d v) h'⟩ := b3a rfl
theorem j0d {agg n o x} : b0g O (⟨d, some (g, b0), .fld agg n o x⟩ :: r) K t h = @b25 (t g) b0 ⟨@iop O (.fld agg n o x) (upd t g (B b0)) h ⟨fun v h' => b0g O r K (b0s (upd t g (B b0)) d v) h'⟩⟩ ⟨b0g O r K (b0s (upd t g (B (!b0))) d U) h⟩ ⟨b0g O r K (b0s t d U) h⟩ := b3c rfl
def d0y (agg : Bool) (n o : Nat) (x : AV) [k : K1 AV] : Prop := match x with | .agg cs => b59 agg n cs o k.k | _ => False
theorem j05 {agg n o x} : @iop O (.fld agg n o x) t h ⟨k⟩ = @d0y agg n o (evT t x) ⟨fun v => k v h⟩ := by
  simp only [iop, op1, d0y, eff]
  generalize evT t x = y
  cases y with
  | agg cs =>
    simp only [b59, b5x]
    cases agg with
    | true =>
      simp only [if_true]
      apply propext; constructor
      · rintro ⟨r, h', he, hk⟩; split at he
        · rename_i ho; cases he; exact ⟨ho, hk⟩
        · cases he
      · rintro ⟨h1, h2⟩; exact ⟨_, _, by rw [if_pos h1], h2⟩
    | false =>
      simp only [Bool.false_eq_true, if_false, Option.map_eq_some_iff]
      apply propext; constructor
      · rintro ⟨r, h', ⟨x, h1, h2⟩, hk⟩; cases h2; exact ⟨_, h1, hk⟩
      · rintro ⟨v, h1, h2⟩; exact ⟨v, h, ⟨v, h1, rfl⟩, h2⟩
  | _ => simp
theorem d7k {agg n o cs} : @d0y agg n o (.agg cs) ⟨k1⟩ = @c3k agg n cs o ⟨k1⟩ := rfl
end
def b8i (v : AV) (j : Nat) : Bool := match v with | .rs id _ _ => id == j | .rp id _ _ => id == j | _ => false
theorem g37 {h : Heap} {F : Nat → Bool} {j : Nat} (hj : F j = false) : (h.but F).ob j = h.ob j := by simp [Heap.but, hj]
theorem g36 {h : Heap} {F : Nat → Bool} : (h.but F).nx = h.nx := by simp [Heap.but]
theorem c32 {h : Heap} {F : Nat → Bool} {j : Nat} (hj : F j = true) : (h.only F).ob j = h.ob j := by simp [Heap.only, hj]
theorem d9m {h : Heap} {F : Nat → Bool} {v : AV} {sz : Nat} {rows : List (List AV)} (hv : b0l h v sz rows) (hF : ∀ j, ¬ b0a v j → F j = true) : b0l (h.only F) v sz rows := by
  rcases hv with ⟨rfl, hr⟩ | ⟨id, rfl, ho, hlt⟩
  · exact .inl ⟨rfl, hr⟩
  · exact .inr ⟨id, rfl, by rw [c32 (hF id (by simp [b0a]))]; exact ho, hlt⟩
theorem c86 {O : Orac} {b : XCode} {Q : XExit → Slots → Heap → Prop} {t : Slots} {h : Heap} {s : Nat} {v y : AV} (F : Nat → Bool) (hs : t s = v) (hz : Fz (h.only F) v y) (hf : Frz y)
    (hw : cw O b Q (upd t s y) (h.but F)) : cw O (.seq .ghost b) Q t h := by
  subst hs
  exact c5k (c9l (.inr ⟨hz, hf⟩)) hw
theorem g58 {O : Orac} {Q : XExit → Slots → Heap → Prop} {t : Slots} {h : Heap} (hw : cw O (.seq .ghost .skip) Q t h) : cw O .ghost Q t h := hw
inductive FzR (h : Heap) : List (List AV) → List (List AV) → Prop
  | nil : FzR h [] []
  | cons {x y : List AV} {xs ys : List (List AV)} (a : FzL h x y) (b : FzR h xs ys) : FzR h (x :: xs) (y :: ys)
theorem d4p {h : Heap} {xs ys : List (List AV)} (hz : FzR h xs ys) : xs.length = ys.length ∧ ∀ (i j : Nat) c d, at2 xs i j = some c → at2 ys i j = some d → Fz h c d := by
  induction hz with
  | nil => exact ⟨rfl, fun i j c d hc => by simp [at2] at hc⟩
  | cons a _ ih =>
    refine ⟨by simp [ih.1], fun i j c d hc hd => ?_⟩
    cases i with
    | zero => simp [at2] at hc hd; exact (b6b a).2 j c d hc hd
    | succ i => exact ih.2 i j c d (by simpa [at2] using hc) (by simpa [at2] using hd)
theorem g65 {h : Heap} {id n sz : Nat} {rows rows' : List (List AV)} (ho : h.ob id = some (sz, rows)) (hn : n = rows.length) (hz : FzR h rows rows') (hl : ∀ d ∈ rows', d.length = sz) : Fz h (.rs id 0 n) (.fs sz rows') := by
  subst hn
  refine .rs id 0 _ sz _ _ ho (by simp) (d4p hz).1.symm hl (fun i j c d h1 h2 => ?_)
  rw [Nat.zero_add] at h1
  exact (d4p hz).2 i j c d h1 h2
attribute [go_sem ↓] g9p j0j g9o j0i j1c j1b g9i j0d j05 d70 d7y d71 d7z d7k
attribute [go_sem] d70 d7y d71 d7z d7k g36 g37
end Go.Nw
namespace Go.Nw
theorem c7w {v : AV} {j : Nat} (hj : ¬ b0a v j) : b8i v j = true := by
  unfold b0a at hj; unfold b8i
  split at hj
  · simpa using hj
  · simp at hj
end Go.Nw
namespace Go.Nw
def sub {α : Type} (l : List α) (a b : Int) : Option (List α) := if 0 ≤ a ∧ a ≤ b ∧ b ≤ l.length then some ((l.take b.toNat).drop a.toNat) else none
theorem j9e {α : Type} {l r : List α} {a b : Int} (h : sub l a b = some r) : 0 ≤ a ∧ a ≤ b ∧ b ≤ l.length ∧ r = (l.take b.toNat).drop a.toNat := by
  unfold sub at h; split at h
  · rename_i hc; cases h; exact ⟨hc.1, hc.2.1, hc.2.2, rfl⟩
  · cases h
theorem j9f {α : Type} {l : List α} {a b : Int} (h0 : 0 ≤ a) (h1 : a ≤ b) (h2 : b ≤ l.length) : sub l a b = some ((l.take b.toNat).drop a.toNat) := by
  unfold sub; rw [if_pos ⟨h0, h1, h2⟩]
def d8d (n : Nat) (x : AV) (lo hi : Option AV) (h : Heap) [k : K2] : Prop := ∃ (r' : AV) (h' : Heap), ((b3k x).bind fun len =>
    (b58 0 lo).bind fun l =>
    (b6g len hi).bind fun r =>
    if l ≤ r then
      match x with
      | .fs sz es => if sz = n then some (.fs sz ((es.take r).drop l), h) else none
      | .rs id lo' _ => (h.ob id).bind fun o => if (l = 0 ∨ l < r) ∧ o.1 = n then some (.rs id (lo' + l) (r - l), h) else none
      | _ => none
    else none) = some (r', h') ∧ k.k r' h'
section
variable {O : Orac} {d : Option Nat} {g : Nat} {b0 : Bool} {r : List XO} {K : Slots → Heap → Prop} {t : Slots} {h : Heap} {k : AV → Heap → Prop}
theorem g9v {n x lo hi} : b0g O (⟨d, none, .slc n x lo hi⟩ :: r) K t h = @iop O (.slc n x lo hi) t h ⟨fun v h' => b0g O r K (b0s t d v) h'⟩ := b3a rfl
theorem j0p {n x lo hi} : b0g O (⟨d, some (g, b0), .slc n x lo hi⟩ :: r) K t h = @b25 (t g) b0 ⟨@iop O (.slc n x lo hi) (upd t g (B b0)) h ⟨fun v h' => b0g O r K (b0s (upd t g (B b0)) d v) h'⟩⟩ ⟨b0g O r K (b0s (upd t g (B (!b0))) d U) h⟩ ⟨b0g O r K (b0s t d U) h⟩ := b3c rfl
theorem j1i {n x lo hi} : @iop O (.slc n x lo hi) t h ⟨k⟩ = @d8d n (evT t x) (lo.map (evT t)) (hi.map (evT t)) h ⟨k⟩ := rfl
theorem j1m {α : Type} {f : α → List AV} {n : Nat} {l m : List α} {lo hi : Option Int} (hs : sub l (lo.getD 0) (hi.getD l.length) = some m) (hk : k (.fs n (List.map f m)) h) : @d8d n (.fs n (List.map f l)) (lo.map fun z => I z) (hi.map fun z => I z) h ⟨k⟩ := by
  obtain ⟨h0, h1, h2, rfl⟩ := j9e hs
  refine ⟨_, _, ?_, hk⟩
  have hb : b58 0 (lo.map fun z => I z) = some (lo.getD 0).toNat := by
    cases lo with
    | none => rfl
    | some y => have h0' : 0 ≤ y := h0; show (if 0 ≤ y then some y.toNat else none) = some y.toNat; rw [if_pos h0']
  have hh : b6g (List.map f l).length (hi.map fun z => I z) = some (hi.getD l.length).toNat := by
    rw [List.length_map]
    cases hi with
    | none => show some l.length = some (Int.toNat l.length); simp
    | some z =>
      have h1' : 0 ≤ z := by have := h0; have := h1; simp only [Option.getD_some] at *; omega
      have h2' : z ≤ l.length := h2
      show (if 0 ≤ z ∧ z.toNat ≤ l.length then some z.toNat else none) = some z.toNat
      rw [if_pos ⟨h1', by omega⟩]
  simp only [b3k, Option.bind_some, hb, hh]
  rw [if_pos (by omega), if_pos trivial, List.map_drop, List.map_take]
end
attribute [go_sem ↓] g9v j0p j1i
attribute [go_sem] Option.map_none
end Go.Nw
namespace Go.Nw
theorem b2z {h : Heap} {v : AV} {sz : Nat} {rows : List (List AV)} {j : Nat} (hv : b0l h v sz rows) (hj : b0a v j) : b8i v j = false := by
  rcases hv with ⟨rfl, _⟩ | ⟨id, rfl, _, _⟩
  · rfl
  · simpa [b8i, b0a] using hj
end Go.Nw
namespace Go.Nw
def d3l (k : IntKind) (a b : Int) : Int := k.wrap (BitVec.ofInt k.bits a &&& BitVec.ofInt k.bits b).toNat
def d3p (k : IntKind) (a b : Int) : Int := k.wrap (BitVec.ofInt k.bits a ||| BitVec.ofInt k.bits b).toNat
def d3r (k : IntKind) (a b : Int) : Int := k.wrap (BitVec.ofInt k.bits a ^^^ BitVec.ofInt k.bits b).toNat
def d3m (k : IntKind) (a b : Int) : Int := k.wrap (BitVec.ofInt k.bits a &&& ~~~(BitVec.ofInt k.bits b)).toNat
def d3o (k : IntKind) (a : Int) : Int := k.wrap (BitVec.ofInt k.bits (if k.signed then -1 else k.max) ^^^ BitVec.ofInt k.bits a).toNat
def j85 (k : IntKind) (a b : Int) : Int := k.wrap (a * 2 ^ (Nat.min b.toNat k.bits))
def j86 (k : IntKind) (a b : Int) : Int := a.fdiv (2 ^ (Nat.min b.toNat k.bits))
def shl (k : IntKind) (a b : Int) : Option Int := if b < 0 then none else some (j85 k a b)
def shr (k : IntKind) (a b : Int) : Option Int := if b < 0 then none else some (j86 k a b)
def quo (k : IntKind) (a b : Int) : Option Int := if b = 0 then none else some (k.wrap (a.tdiv b))
def rem (a b : Int) : Option Int := if b = 0 then none else some (a.tmod b)
theorem d9x {k : IntKind} {a b : Int} (h : ¬ b = 0) : quo k a b = some (k.wrap (a.tdiv b)) := by unfold quo; rw [if_neg h]
section
variable {k : AV → Prop} {e : EqK} {kd kd' : IntKind} {a b : Int}
theorem d6c : @b3g .and e (.v (.int kd a)) (.v (.int kd b)) ⟨k⟩ = k (.v (.int kd (d3l kd a b))) := b5g (by simp [b4j, b4h, d3l])
theorem d6v : @b3g .or e (.v (.int kd a)) (.v (.int kd b)) ⟨k⟩ = k (.v (.int kd (d3p kd a b))) := b5g (by simp [b4j, b4h, d3p])
theorem d6y : @b3g .xor e (.v (.int kd a)) (.v (.int kd b)) ⟨k⟩ = k (.v (.int kd (d3r kd a b))) := b5g (by simp [b4j, b4h, d3r])
theorem d6f : @b3g .andNot e (.v (.int kd a)) (.v (.int kd b)) ⟨k⟩ = k (.v (.int kd (d3m kd a b))) := b5g (by simp [b4j, b4h, d3m])
theorem d6w {r : Int} (h : quo kd a b = some r) : @b3g .quo e (.v (.int kd a)) (.v (.int kd b)) ⟨k⟩ = k (.v (.int kd r)) := by
  unfold quo at h; split at h
  · cases h
  · rename_i hb; cases h
    exact b5g (by simp [b4j, b4h, hb])
theorem d8i : @iun .xor (.v (.int kd a)) ⟨k⟩ = k (.v (.int kd (d3o kd a))) := by
  show unK _ _ _ = _
  simp [unK, b90, d3o]
end
def d0w (kd : IntKind) (x : AV) [k : K1 AV] : Prop := match x with | .v (.int _ n) => k.k (.v (.int kd (kd.wrap n))) | _ => False
section
variable {O : Orac} {d : Option Nat} {g : Nat} {b0 : Bool} {r : List XO} {K : Slots → Heap → Prop} {t : Slots} {h : Heap} {k : AV → Heap → Prop} {k1 : AV → Prop}
theorem g9g {kd x} : b0g O (⟨d, none, .cvtI kd x⟩ :: r) K t h = @iop O (.cvtI kd x) t h ⟨fun v h' => b0g O r K (b0s t d v) h'⟩ := b3a rfl
theorem j0b {kd x} : b0g O (⟨d, some (g, b0), .cvtI kd x⟩ :: r) K t h = @b25 (t g) b0 ⟨@iop O (.cvtI kd x) (upd t g (B b0)) h ⟨fun v h' => b0g O r K (b0s (upd t g (B b0)) d v) h'⟩⟩ ⟨b0g O r K (b0s (upd t g (B (!b0))) d U) h⟩ ⟨b0g O r K (b0s t d U) h⟩ := b3c rfl
theorem j03 {kd x} : @iop O (.cvtI kd x) t h ⟨k⟩ = @d0w kd (evT t x) ⟨fun v => k v h⟩ := by
  simp only [iop, op1, d0w, eff]
  generalize evT t x = y
  cases y with
  | v z =>
    cases z with
    | int k' n => exact ex1
    | _ => exact ex0
  | _ => exact ex0
theorem d7f {kd kd' : IntKind} {n : Int} : @d0w kd (.v (.int kd' n)) ⟨k1⟩ = k1 (.v (.int kd (kd.wrap n))) := rfl
end
attribute [go_sem ↓] g9g j0b j03 d7f d6c d6v d6y d6f d8i
attribute [go_sem] d7f d6c d6v d6y d6f d8i
end Go.Nw
namespace Go.Nw
theorem d6h {k : AV → Prop} {a b c d : Int} : @b3g .eql (.flat [.i, .i]) (.agg [I a, I b]) (.agg [I c, I d]) ⟨k⟩ = k (B (decide (a = c) && decide (b = d))) := by
  show b2w _ _ _ _ _ = _
  by_cases h1 : a = c <;> by_cases h2 : b = d <;> simp [b2w, b4w, b3j, b6a, h1, h2]
theorem d6p {k : AV → Prop} {a b c d : Int} : @b3g .neq (.flat [.i, .i]) (.agg [I a, I b]) (.agg [I c, I d]) ⟨k⟩ = k (B (!(decide (a = c) && decide (b = d)))) := by
  show b2w _ _ _ _ _ = _
  by_cases h1 : a = c <;> by_cases h2 : b = d <;> simp [b2w, b4w, b3j, b6a, h1, h2]
theorem d6i {k : AV → Prop} {a b c d x y : Int} : @b3g .eql (.flat [.i, .i, .i]) (.agg [I a, I b, I x]) (.agg [I c, I d, I y]) ⟨k⟩ = k (B (decide (a = c) && decide (b = d) && decide (x = y))) := by
  show b2w _ _ _ _ _ = _
  by_cases h1 : a = c <;> by_cases h2 : b = d <;> by_cases h3 : x = y <;> simp [b2w, b4w, b3j, b6a, h1, h2, h3]
theorem d6q {k : AV → Prop} {a b c d x y : Int} : @b3g .neq (.flat [.i, .i, .i]) (.agg [I a, I b, I x]) (.agg [I c, I d, I y]) ⟨k⟩ = k (B (!(decide (a = c) && decide (b = d) && decide (x = y)))) := by
  show b2w _ _ _ _ _ = _
  by_cases h1 : a = c <;> by_cases h2 : b = d <;> by_cases h3 : x = y <;> simp [b2w, b4w, b3j, b6a, h1, h2, h3]
theorem d6r {k : AV → Prop} : @b3g .eql .slice (.v (.slice none 0 0)) (.v (.slice none 0 0)) ⟨k⟩ = k (B true) := by
  show b2w _ _ _ _ _ = _
  simp [b2w, b4w, b3j, c09]
theorem d6t {k : AV → Prop} : @b3g .neq .slice (.v (.slice none 0 0)) (.v (.slice none 0 0)) ⟨k⟩ = k (B false) := by
  show b2w _ _ _ _ _ = _
  simp [b2w, b4w, b3j, c09]
theorem d6s {k : AV → Prop} {a b c : Nat} : @b3g .eql .slice (.rs a b c) (.v (.slice none 0 0)) ⟨k⟩ = k (B false) := by
  show b2w _ _ _ _ _ = _
  simp [b2w, b4w, b3j, c09]
theorem d6u {k : AV → Prop} {a b c : Nat} : @b3g .neq .slice (.rs a b c) (.v (.slice none 0 0)) ⟨k⟩ = k (B true) := by
  show b2w _ _ _ _ _ = _
  simp [b2w, b4w, b3j, c09]
attribute [go_sem ↓] d6h d6p d6i d6q d6r d6t d6s d6u
attribute [go_sem] d6h d6p d6i d6q d6r d6t d6s d6u
theorem g9y {O : Orac} {f : String} {as as' : List AV} {r : AV} {h : Heap} {k : AV → Heap → Prop} (hz : FzL h as as') (ha : ∀ a ∈ as, Frz a) (hf : Fn O f as' r) (hk : k r h) : @c3j O f as h ⟨k⟩ :=
  ⟨r, h, ⟨as', r, [], [], hz, hf.o, .inl ha, .frz r hf.r, rfl, fun k sz es hh => by simp at hh, rfl⟩, hk⟩
theorem c9j {h0 h : Heap} {v : AV} {sz i : Nat} {rows : List (List AV)} (hv : b0l h0 v sz rows) (hi : b0a v i) : (b8z h v).ob i = h.ob i := by
  rcases hv with ⟨rfl, _⟩ | ⟨id, rfl, _, _⟩
  · rfl
  · exact d2z fun e => hi e.symm
attribute [go_sem] beq_self_eq_true eq_self
theorem nxa {a b : Nat} : (nxs a = nxs b) = (a = b) := by simp [nxs]
theorem nxb {a b : Nat} : (nxs a < nxs b) = (a < b) := by simp [nxs]
theorem j4p {n : Nat} : (n < nxs n) = True := by simp only [nxs, eq_iff_iff, iff_true]; omega
theorem j45 {i n : Nat} (h : i < n) : (i < nxs n) = True := by simp only [nxs, eq_iff_iff, iff_true]; omega
theorem j2q {n : Nat} : (n = nxs n) = False := by simp only [nxs, eq_iff_iff, iff_false]; omega
theorem j26 {n : Nat} : (nxs n = n) = False := by simp only [nxs, eq_iff_iff, iff_false]; omega
theorem j3n {i n : Nat} (h : i < n) : (i = nxs n) = False := by simp only [nxs, eq_iff_iff, iff_false]; omega
theorem j36 {i n : Nat} (h : i < n) : (nxs n = i) = False := by simp only [nxs, eq_iff_iff, iff_false]; omega
theorem j4x {n : Nat} : (n < nxs (nxs n)) = True := by simp only [nxs, eq_iff_iff, iff_true]; omega
theorem j5d {i n : Nat} (h : i < n) : (i < nxs (nxs n)) = True := by simp only [nxs, eq_iff_iff, iff_true]; omega
theorem j2y {n : Nat} : (n = nxs (nxs n)) = False := by simp only [nxs, eq_iff_iff, iff_false]; omega
theorem j3e {n : Nat} : (nxs (nxs n) = n) = False := by simp only [nxs, eq_iff_iff, iff_false]; omega
theorem j3v {i n : Nat} (h : i < n) : (i = nxs (nxs n)) = False := by simp only [nxs, eq_iff_iff, iff_false]; omega
theorem j4e {i n : Nat} (h : i < n) : (nxs (nxs n) = i) = False := by simp only [nxs, eq_iff_iff, iff_false]; omega
theorem j4y {n : Nat} : (n < nxs (nxs (nxs n))) = True := by simp only [nxs, eq_iff_iff, iff_true]; omega
theorem j5e {i n : Nat} (h : i < n) : (i < nxs (nxs (nxs n))) = True := by simp only [nxs, eq_iff_iff, iff_true]; omega
theorem j2z {n : Nat} : (n = nxs (nxs (nxs n))) = False := by simp only [nxs, eq_iff_iff, iff_false]; omega
theorem j3f {n : Nat} : (nxs (nxs (nxs n)) = n) = False := by simp only [nxs, eq_iff_iff, iff_false]; omega
theorem j3w {i n : Nat} (h : i < n) : (i = nxs (nxs (nxs n))) = False := by simp only [nxs, eq_iff_iff, iff_false]; omega
theorem j4f {i n : Nat} (h : i < n) : (nxs (nxs (nxs n)) = i) = False := by simp only [nxs, eq_iff_iff, iff_false]; omega
theorem j4z {n : Nat} : (n < nxs (nxs (nxs (nxs n)))) = True := by simp only [nxs, eq_iff_iff, iff_true]; omega
theorem j5f {i n : Nat} (h : i < n) : (i < nxs (nxs (nxs (nxs n)))) = True := by simp only [nxs, eq_iff_iff, iff_true]; omega
theorem j20 {n : Nat} : (n = nxs (nxs (nxs (nxs n)))) = False := by simp only [nxs, eq_iff_iff, iff_false]; omega
theorem j3g {n : Nat} : (nxs (nxs (nxs (nxs n))) = n) = False := by simp only [nxs, eq_iff_iff, iff_false]; omega
theorem j3x {i n : Nat} (h : i < n) : (i = nxs (nxs (nxs (nxs n)))) = False := by simp only [nxs, eq_iff_iff, iff_false]; omega
theorem j4g {i n : Nat} (h : i < n) : (nxs (nxs (nxs (nxs n))) = i) = False := by simp only [nxs, eq_iff_iff, iff_false]; omega
theorem j40 {n : Nat} : (n < nxs (nxs (nxs (nxs (nxs n))))) = True := by simp only [nxs, eq_iff_iff, iff_true]; omega
theorem j5g {i n : Nat} (h : i < n) : (i < nxs (nxs (nxs (nxs (nxs n))))) = True := by simp only [nxs, eq_iff_iff, iff_true]; omega
theorem j21 {n : Nat} : (n = nxs (nxs (nxs (nxs (nxs n))))) = False := by simp only [nxs, eq_iff_iff, iff_false]; omega
theorem j3h {n : Nat} : (nxs (nxs (nxs (nxs (nxs n)))) = n) = False := by simp only [nxs, eq_iff_iff, iff_false]; omega
theorem j3y {i n : Nat} (h : i < n) : (i = nxs (nxs (nxs (nxs (nxs n))))) = False := by simp only [nxs, eq_iff_iff, iff_false]; omega
theorem j4h {i n : Nat} (h : i < n) : (nxs (nxs (nxs (nxs (nxs n)))) = i) = False := by simp only [nxs, eq_iff_iff, iff_false]; omega
theorem j41 {n : Nat} : (n < nxs (nxs (nxs (nxs (nxs (nxs n)))))) = True := by simp only [nxs, eq_iff_iff, iff_true]; omega
theorem j5h {i n : Nat} (h : i < n) : (i < nxs (nxs (nxs (nxs (nxs (nxs n)))))) = True := by simp only [nxs, eq_iff_iff, iff_true]; omega
theorem j22 {n : Nat} : (n = nxs (nxs (nxs (nxs (nxs (nxs n)))))) = False := by simp only [nxs, eq_iff_iff, iff_false]; omega
theorem j3i {n : Nat} : (nxs (nxs (nxs (nxs (nxs (nxs n))))) = n) = False := by simp only [nxs, eq_iff_iff, iff_false]; omega
theorem j3z {i n : Nat} (h : i < n) : (i = nxs (nxs (nxs (nxs (nxs (nxs n)))))) = False := by simp only [nxs, eq_iff_iff, iff_false]; omega
theorem j4i {i n : Nat} (h : i < n) : (nxs (nxs (nxs (nxs (nxs (nxs n))))) = i) = False := by simp only [nxs, eq_iff_iff, iff_false]; omega
theorem j42 {n : Nat} : (n < nxs (nxs (nxs (nxs (nxs (nxs (nxs n))))))) = True := by simp only [nxs, eq_iff_iff, iff_true]; omega
theorem j5i {i n : Nat} (h : i < n) : (i < nxs (nxs (nxs (nxs (nxs (nxs (nxs n))))))) = True := by simp only [nxs, eq_iff_iff, iff_true]; omega
theorem j23 {n : Nat} : (n = nxs (nxs (nxs (nxs (nxs (nxs (nxs n))))))) = False := by simp only [nxs, eq_iff_iff, iff_false]; omega
theorem j3j {n : Nat} : (nxs (nxs (nxs (nxs (nxs (nxs (nxs n)))))) = n) = False := by simp only [nxs, eq_iff_iff, iff_false]; omega
theorem j30 {i n : Nat} (h : i < n) : (i = nxs (nxs (nxs (nxs (nxs (nxs (nxs n))))))) = False := by simp only [nxs, eq_iff_iff, iff_false]; omega
theorem j4j {i n : Nat} (h : i < n) : (nxs (nxs (nxs (nxs (nxs (nxs (nxs n)))))) = i) = False := by simp only [nxs, eq_iff_iff, iff_false]; omega
theorem j43 {n : Nat} : (n < nxs (nxs (nxs (nxs (nxs (nxs (nxs (nxs n)))))))) = True := by simp only [nxs, eq_iff_iff, iff_true]; omega
theorem j5j {i n : Nat} (h : i < n) : (i < nxs (nxs (nxs (nxs (nxs (nxs (nxs (nxs n)))))))) = True := by simp only [nxs, eq_iff_iff, iff_true]; omega
theorem j24 {n : Nat} : (n = nxs (nxs (nxs (nxs (nxs (nxs (nxs (nxs n)))))))) = False := by simp only [nxs, eq_iff_iff, iff_false]; omega
theorem j3k {n : Nat} : (nxs (nxs (nxs (nxs (nxs (nxs (nxs (nxs n))))))) = n) = False := by simp only [nxs, eq_iff_iff, iff_false]; omega
theorem j31 {i n : Nat} (h : i < n) : (i = nxs (nxs (nxs (nxs (nxs (nxs (nxs (nxs n)))))))) = False := by simp only [nxs, eq_iff_iff, iff_false]; omega
theorem j4k {i n : Nat} (h : i < n) : (nxs (nxs (nxs (nxs (nxs (nxs (nxs (nxs n))))))) = i) = False := by simp only [nxs, eq_iff_iff, iff_false]; omega
theorem j44 {n : Nat} : (n < nxs (nxs (nxs (nxs (nxs (nxs (nxs (nxs (nxs n))))))))) = True := by simp only [nxs, eq_iff_iff, iff_true]; omega
theorem j5k {i n : Nat} (h : i < n) : (i < nxs (nxs (nxs (nxs (nxs (nxs (nxs (nxs (nxs n))))))))) = True := by simp only [nxs, eq_iff_iff, iff_true]; omega
theorem j25 {n : Nat} : (n = nxs (nxs (nxs (nxs (nxs (nxs (nxs (nxs (nxs n))))))))) = False := by simp only [nxs, eq_iff_iff, iff_false]; omega
theorem j3l {n : Nat} : (nxs (nxs (nxs (nxs (nxs (nxs (nxs (nxs (nxs n)))))))) = n) = False := by simp only [nxs, eq_iff_iff, iff_false]; omega
theorem j32 {i n : Nat} (h : i < n) : (i = nxs (nxs (nxs (nxs (nxs (nxs (nxs (nxs (nxs n))))))))) = False := by simp only [nxs, eq_iff_iff, iff_false]; omega
theorem j4l {i n : Nat} (h : i < n) : (nxs (nxs (nxs (nxs (nxs (nxs (nxs (nxs (nxs n)))))))) = i) = False := by simp only [nxs, eq_iff_iff, iff_false]; omega
theorem j4q {n : Nat} : (n < nxs (nxs (nxs (nxs (nxs (nxs (nxs (nxs (nxs (nxs n)))))))))) = True := by simp only [nxs, eq_iff_iff, iff_true]; omega
theorem j46 {i n : Nat} (h : i < n) : (i < nxs (nxs (nxs (nxs (nxs (nxs (nxs (nxs (nxs (nxs n)))))))))) = True := by simp only [nxs, eq_iff_iff, iff_true]; omega
theorem j2r {n : Nat} : (n = nxs (nxs (nxs (nxs (nxs (nxs (nxs (nxs (nxs (nxs n)))))))))) = False := by simp only [nxs, eq_iff_iff, iff_false]; omega
theorem j27 {n : Nat} : (nxs (nxs (nxs (nxs (nxs (nxs (nxs (nxs (nxs (nxs n))))))))) = n) = False := by simp only [nxs, eq_iff_iff, iff_false]; omega
theorem j3o {i n : Nat} (h : i < n) : (i = nxs (nxs (nxs (nxs (nxs (nxs (nxs (nxs (nxs (nxs n)))))))))) = False := by simp only [nxs, eq_iff_iff, iff_false]; omega
theorem j37 {i n : Nat} (h : i < n) : (nxs (nxs (nxs (nxs (nxs (nxs (nxs (nxs (nxs (nxs n))))))))) = i) = False := by simp only [nxs, eq_iff_iff, iff_false]; omega
theorem j4r {n : Nat} : (n < nxs (nxs (nxs (nxs (nxs (nxs (nxs (nxs (nxs (nxs (nxs n))))))))))) = True := by simp only [nxs, eq_iff_iff, iff_true]; omega
theorem j47 {i n : Nat} (h : i < n) : (i < nxs (nxs (nxs (nxs (nxs (nxs (nxs (nxs (nxs (nxs (nxs n))))))))))) = True := by simp only [nxs, eq_iff_iff, iff_true]; omega
theorem j2s {n : Nat} : (n = nxs (nxs (nxs (nxs (nxs (nxs (nxs (nxs (nxs (nxs (nxs n))))))))))) = False := by simp only [nxs, eq_iff_iff, iff_false]; omega
theorem j28 {n : Nat} : (nxs (nxs (nxs (nxs (nxs (nxs (nxs (nxs (nxs (nxs (nxs n)))))))))) = n) = False := by simp only [nxs, eq_iff_iff, iff_false]; omega
theorem j3p {i n : Nat} (h : i < n) : (i = nxs (nxs (nxs (nxs (nxs (nxs (nxs (nxs (nxs (nxs (nxs n))))))))))) = False := by simp only [nxs, eq_iff_iff, iff_false]; omega
theorem j38 {i n : Nat} (h : i < n) : (nxs (nxs (nxs (nxs (nxs (nxs (nxs (nxs (nxs (nxs (nxs n)))))))))) = i) = False := by simp only [nxs, eq_iff_iff, iff_false]; omega
theorem j4s {n : Nat} : (n < nxs (nxs (nxs (nxs (nxs (nxs (nxs (nxs (nxs (nxs (nxs (nxs n)))))))))))) = True := by simp only [nxs, eq_iff_iff, iff_true]; omega
theorem j48 {i n : Nat} (h : i < n) : (i < nxs (nxs (nxs (nxs (nxs (nxs (nxs (nxs (nxs (nxs (nxs (nxs n)))))))))))) = True := by simp only [nxs, eq_iff_iff, iff_true]; omega
theorem j2t {n : Nat} : (n = nxs (nxs (nxs (nxs (nxs (nxs (nxs (nxs (nxs (nxs (nxs (nxs n)))))))))))) = False := by simp only [nxs, eq_iff_iff, iff_false]; omega
theorem j29 {n : Nat} : (nxs (nxs (nxs (nxs (nxs (nxs (nxs (nxs (nxs (nxs (nxs (nxs n))))))))))) = n) = False := by simp only [nxs, eq_iff_iff, iff_false]; omega
theorem j3q {i n : Nat} (h : i < n) : (i = nxs (nxs (nxs (nxs (nxs (nxs (nxs (nxs (nxs (nxs (nxs (nxs n)))))))))))) = False := by simp only [nxs, eq_iff_iff, iff_false]; omega
theorem j39 {i n : Nat} (h : i < n) : (nxs (nxs (nxs (nxs (nxs (nxs (nxs (nxs (nxs (nxs (nxs (nxs n))))))))))) = i) = False := by simp only [nxs, eq_iff_iff, iff_false]; omega
theorem j4t {n : Nat} : (n < nxs (nxs (nxs (nxs (nxs (nxs (nxs (nxs (nxs (nxs (nxs (nxs (nxs n))))))))))))) = True := by simp only [nxs, eq_iff_iff, iff_true]; omega
theorem j49 {i n : Nat} (h : i < n) : (i < nxs (nxs (nxs (nxs (nxs (nxs (nxs (nxs (nxs (nxs (nxs (nxs (nxs n))))))))))))) = True := by simp only [nxs, eq_iff_iff, iff_true]; omega
theorem j2u {n : Nat} : (n = nxs (nxs (nxs (nxs (nxs (nxs (nxs (nxs (nxs (nxs (nxs (nxs (nxs n))))))))))))) = False := by simp only [nxs, eq_iff_iff, iff_false]; omega
theorem j3a {n : Nat} : (nxs (nxs (nxs (nxs (nxs (nxs (nxs (nxs (nxs (nxs (nxs (nxs (nxs n)))))))))))) = n) = False := by simp only [nxs, eq_iff_iff, iff_false]; omega
theorem j3r {i n : Nat} (h : i < n) : (i = nxs (nxs (nxs (nxs (nxs (nxs (nxs (nxs (nxs (nxs (nxs (nxs (nxs n))))))))))))) = False := by simp only [nxs, eq_iff_iff, iff_false]; omega
theorem j4a {i n : Nat} (h : i < n) : (nxs (nxs (nxs (nxs (nxs (nxs (nxs (nxs (nxs (nxs (nxs (nxs (nxs n)))))))))))) = i) = False := by simp only [nxs, eq_iff_iff, iff_false]; omega
theorem j4u {n : Nat} : (n < nxs (nxs (nxs (nxs (nxs (nxs (nxs (nxs (nxs (nxs (nxs (nxs (nxs (nxs n)))))))))))))) = True := by simp only [nxs, eq_iff_iff, iff_true]; omega
theorem j5a {i n : Nat} (h : i < n) : (i < nxs (nxs (nxs (nxs (nxs (nxs (nxs (nxs (nxs (nxs (nxs (nxs (nxs (nxs n)))))))))))))) = True := by simp only [nxs, eq_iff_iff, iff_true]; omega
theorem j2v {n : Nat} : (n = nxs (nxs (nxs (nxs (nxs (nxs (nxs (nxs (nxs (nxs (nxs (nxs (nxs (nxs n)))))))))))))) = False := by simp only [nxs, eq_iff_iff, iff_false]; omega
theorem j3b {n : Nat} : (nxs (nxs (nxs (nxs (nxs (nxs (nxs (nxs (nxs (nxs (nxs (nxs (nxs (nxs n))))))))))))) = n) = False := by simp only [nxs, eq_iff_iff, iff_false]; omega
theorem j3s {i n : Nat} (h : i < n) : (i = nxs (nxs (nxs (nxs (nxs (nxs (nxs (nxs (nxs (nxs (nxs (nxs (nxs (nxs n)))))))))))))) = False := by simp only [nxs, eq_iff_iff, iff_false]; omega
theorem j4b {i n : Nat} (h : i < n) : (nxs (nxs (nxs (nxs (nxs (nxs (nxs (nxs (nxs (nxs (nxs (nxs (nxs (nxs n))))))))))))) = i) = False := by simp only [nxs, eq_iff_iff, iff_false]; omega
theorem j4v {n : Nat} : (n < nxs (nxs (nxs (nxs (nxs (nxs (nxs (nxs (nxs (nxs (nxs (nxs (nxs (nxs (nxs n))))))))))))))) = True := by simp only [nxs, eq_iff_iff, iff_true]; omega
theorem j5b {i n : Nat} (h : i < n) : (i < nxs (nxs (nxs (nxs (nxs (nxs (nxs (nxs (nxs (nxs (nxs (nxs (nxs (nxs (nxs n))))))))))))))) = True := by simp only [nxs, eq_iff_iff, iff_true]; omega
theorem j2w {n : Nat} : (n = nxs (nxs (nxs (nxs (nxs (nxs (nxs (nxs (nxs (nxs (nxs (nxs (nxs (nxs (nxs n))))))))))))))) = False := by simp only [nxs, eq_iff_iff, iff_false]; omega
theorem j3c {n : Nat} : (nxs (nxs (nxs (nxs (nxs (nxs (nxs (nxs (nxs (nxs (nxs (nxs (nxs (nxs (nxs n)))))))))))))) = n) = False := by simp only [nxs, eq_iff_iff, iff_false]; omega
theorem j3t {i n : Nat} (h : i < n) : (i = nxs (nxs (nxs (nxs (nxs (nxs (nxs (nxs (nxs (nxs (nxs (nxs (nxs (nxs (nxs n))))))))))))))) = False := by simp only [nxs, eq_iff_iff, iff_false]; omega
theorem j4c {i n : Nat} (h : i < n) : (nxs (nxs (nxs (nxs (nxs (nxs (nxs (nxs (nxs (nxs (nxs (nxs (nxs (nxs (nxs n)))))))))))))) = i) = False := by simp only [nxs, eq_iff_iff, iff_false]; omega
theorem j4w {n : Nat} : (n < nxs (nxs (nxs (nxs (nxs (nxs (nxs (nxs (nxs (nxs (nxs (nxs (nxs (nxs (nxs (nxs n)))))))))))))))) = True := by simp only [nxs, eq_iff_iff, iff_true]; omega
theorem j5c {i n : Nat} (h : i < n) : (i < nxs (nxs (nxs (nxs (nxs (nxs (nxs (nxs (nxs (nxs (nxs (nxs (nxs (nxs (nxs (nxs n)))))))))))))))) = True := by simp only [nxs, eq_iff_iff, iff_true]; omega
theorem j2x {n : Nat} : (n = nxs (nxs (nxs (nxs (nxs (nxs (nxs (nxs (nxs (nxs (nxs (nxs (nxs (nxs (nxs (nxs n)))))))))))))))) = False := by simp only [nxs, eq_iff_iff, iff_false]; omega
theorem j3d {n : Nat} : (nxs (nxs (nxs (nxs (nxs (nxs (nxs (nxs (nxs (nxs (nxs (nxs (nxs (nxs (nxs (nxs n))))))))))))))) = n) = False := by simp only [nxs, eq_iff_iff, iff_false]; omega
theorem j3u {i n : Nat} (h : i < n) : (i = nxs (nxs (nxs (nxs (nxs (nxs (nxs (nxs (nxs (nxs (nxs (nxs (nxs (nxs (nxs (nxs n)))))))))))))))) = False := by simp only [nxs, eq_iff_iff, iff_false]; omega
theorem j4d {i n : Nat} (h : i < n) : (nxs (nxs (nxs (nxs (nxs (nxs (nxs (nxs (nxs (nxs (nxs (nxs (nxs (nxs (nxs (nxs n))))))))))))))) = i) = False := by simp only [nxs, eq_iff_iff, iff_false]; omega
theorem j3m {i : Nat} {h : Heap} (hl : i < h.nx) : (i = h.nx) = False := by simp only [eq_iff_iff, iff_false]; omega
theorem j35 {i : Nat} {h : Heap} (hl : i < h.nx) : (h.nx = i) = False := by simp only [eq_iff_iff, iff_false]; omega
attribute [go_sem] nxa nxb j4p j45 j2q j26 j3n j36 j4x j5d j2y j3e j3v j4e j4y j5e j2z j3f j3w j4f j4z j5f j20 j3g j3x j4g j40 j5g j21 j3h j3y j4h j41 j5h j22 j3i j3z j4i j42 j5i j23 j3j j30 j4j j43 j5j j24 j3k j31 j4k j44 j5k j25 j3l j32 j4l j4q j46 j2r j27 j3o j37 j4r j47 j2s j28 j3p j38 j4s j48 j2t j29 j3q j39 j4t j49 j2u j3a j3r j4a j4u j5a j2v j3b j3s j4b j4v j5b j2w j3c j3t j4c j4w j5c j2x j3d j3u j4d j3m j35
end Go.Nw
