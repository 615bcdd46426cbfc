/- Own objects: rules for what makes, reads, writes and hands them over. -/
import Derived.Test.YteoedeeljnboeaaNwModel
set_option linter.all false
set_option linter.unusedVariables false
set_option linter.unusedSimpArgs false
set_option linter.unusedSectionVars false
namespace Go.Nw
theorem d1u {h : Heap} {o : Ob} {i : Nat} (hl : i < h.nx) : (h.new o).ob i = h.ob i := by
  simp only [Heap.new]; rw [if_neg (by omega)]
theorem d1t {h : Heap} {o : Ob} {i : Nat} (hl : i = h.nx) : (h.new o).ob i = some o := by
  simp only [Heap.new]; rw [if_pos hl]
theorem d2s {h : Heap} {o : Option Ob} {i j : Nat} (hl : ¬ i = j) : (h.upd j o).ob i = h.ob i := by
  simp only [Heap.upd]; rw [if_neg hl]
theorem j81 {h : Heap} {o : Option Ob} {i j : Nat} (hl : i = j) : (h.upd j o).ob i = o := by
  simp only [Heap.upd]; rw [if_pos hl]
theorem d5z {p : Prop} : @b48 True ⟨p⟩ = p := by simp [b48]
theorem b0z {α : Type} {f : α → List AV} {l : List α} {i : Int} {x : α} {sz : Nat} {k : Nat → List (List AV) → List AV → Prop} (hx : get l i = some x) :
    @c59 (some (sz, List.map f l)) i.toNat ⟨k⟩ = k sz (List.map f l) (f x) := by
  show b72 _ _ _ = _
  simp only [d9f, List.getElem?_map, b54 hx, Option.map_some, Option.some.injEq]
  apply propext; constructor
  · rintro ⟨_, rfl, hk⟩; exact hk
  · exact fun hk => ⟨_, rfl, hk⟩
theorem j8c {l : List Int} {n : Nat} {v : Int} : (List.map eI l).set n [I v] = List.map eI (l.set n v) := by rw [List.map_set]; rfl
theorem j8b {l : List Bool} {n : Nat} {v : Bool} : (List.map eB l).set n [B v] = List.map eB (l.set n v) := by rw [List.map_set]; rfl
def mks {α : Type} (b : Nat) (n : Int) (z : α) : Option (List α) := if 0 ≤ n ∧ n * b ≤ 2 ^ 47 ∧ n < 2 ^ 63 then some (List.replicate n.toNat z) else none
theorem d1r {α : Type} {b : Nat} {n : Int} {z : α} {l : List α} (h : mks b n z = some l) : 0 ≤ n ∧ n * b ≤ 2 ^ 47 ∧ n < 2 ^ 63 ∧ l = List.replicate n.toNat z := by
  unfold mks at h; split at h
  · rename_i hc; cases h; exact ⟨hc.1, hc.2.1, hc.2.2, rfl⟩
  · cases h
theorem d8i {α : Type} {b : Nat} {n : Int} {z : α} (h0 : 0 ≤ n) (h1 : n * b ≤ 2 ^ 47) (h2 : n < 2 ^ 63) : mks b n z = some (List.replicate n.toNat z) := by
  unfold mks; rw [if_pos ⟨h0, h1, h2⟩]
def ap {α : Type} (b : Nat) (l m : List α) : Option (List α) := if (l.length + m.length) * b ≤ 2 ^ 40 then some (l ++ m) else none
theorem b9w {α : Type} {b : Nat} {l m r : List α} (h : ap b l m = some r) : (l.length + m.length) * b ≤ 2 ^ 40 ∧ r = l ++ m := by
  unfold ap at h; split at h
  · rename_i hc; cases h; exact ⟨hc, rfl⟩
  · cases h
theorem b34 {α : Type} {b : Nat} {l m : List α} (h : (l.length + m.length) * b ≤ 2 ^ 40) : ap b l m = some (l ++ m) := by
  unfold ap; rw [if_pos h]
def c55 (sz : Nat) (zs : List Value) (b : Nat) (l c : AV) (h : Heap) [k : K2] : Prop := ∃ r h', eff (.mksl sz zs b (.t 0) (.t 1)) (evT fun i => if i = 0 then l else c) h = some (r, h') ∧ k.k r h'
def c3e (sz b : Nat) (s x : AV) (h : Heap) [k : K2] : Prop := ∃ r h', eff (.app sz b (.t 0) (.t 1)) (evT fun i => if i = 0 then s else x) h = some (r, h') ∧ k.k r h'
def d0j (sz : Nat) (vs : List AV) (h : Heap) [k : K2] : Prop := (vs.all fun x => b2u x && (cellsOf x).length == sz) = true ∧ k.k (.rs h.nx 0 vs.length) (h.new (sz, vs.map cellsOf))
section
variable {O : Orac} {d : Option Nat} {g : Nat} {b0 : Bool} {r : List XO} {K : Slots → Heap → Prop} {t : Slots} {h : Heap} {k : AV → Heap → Prop}
theorem g81 {sz zs b l c} : b0g O (⟨d, none, .mksl sz zs b l c⟩ :: r) K t h = @iop O (.mksl sz zs b l c) t h ⟨fun v h' => b0g O r K (b0t t d v) h'⟩ := b3d rfl
theorem g9v {sz zs b l c} : b0g O (⟨d, some (g, b0), .mksl sz zs b l c⟩ :: r) K t h = @b29 (t g) b0 ⟨@iop O (.mksl sz zs b l c) (upd t g (B b0)) h ⟨fun v h' => b0g O r K (b0t (upd t g (B b0)) d v) h'⟩⟩ ⟨b0g O r K (b0t (upd t g (B (!b0))) d U) h⟩ ⟨b0g O r K (b0t t d U) h⟩ := b3e rfl
theorem g8h {sz b s x} : b0g O (⟨d, none, .app sz b s x⟩ :: r) K t h = @iop O (.app sz b s x) t h ⟨fun v h' => b0g O r K (b0t t d v) h'⟩ := b3d rfl
theorem g9d {sz b s x} : b0g O (⟨d, some (g, b0), .app sz b s x⟩ :: r) K t h = @b29 (t g) b0 ⟨@iop O (.app sz b s x) (upd t g (B b0)) h ⟨fun v h' => b0g O r K (b0t (upd t g (B b0)) d v) h'⟩⟩ ⟨b0g O r K (b0t (upd t g (B (!b0))) d U) h⟩ ⟨b0g O r K (b0t t d U) h⟩ := b3e rfl
theorem g8l {sz vs} : b0g O (⟨d, none, .bsl sz vs⟩ :: r) K t h = @iop O (.bsl sz vs) t h ⟨fun v h' => b0g O r K (b0t t d v) h'⟩ := b3d rfl
theorem g9h {sz vs} : b0g O (⟨d, some (g, b0), .bsl sz vs⟩ :: r) K t h = @b29 (t g) b0 ⟨@iop O (.bsl sz vs) (upd t g (B b0)) h ⟨fun v h' => b0g O r K (b0t (upd t g (B b0)) d v) h'⟩⟩ ⟨b0g O r K (b0t (upd t g (B (!b0))) d U) h⟩ ⟨b0g O r K (b0t t d U) h⟩ := b3e rfl
theorem j0o {sz zs b l c} : @iop O (.mksl sz zs b l c) t h ⟨k⟩ = @c55 sz zs b (evT t l) (evT t c) h ⟨k⟩ := by
  simp only [iop, op1, c55, eff, evT, if_true, Nat.one_ne_zero, if_false]
theorem g94 {sz b s x} : @iop O (.app sz b s x) t h ⟨k⟩ = @c3e sz b (evT t s) (evT t x) h ⟨k⟩ := by
  simp only [iop, op1, c3e, eff, evT, if_true, Nat.one_ne_zero, if_false]
theorem g98 {sz vs} : @iop O (.bsl sz vs) t h ⟨k⟩ = @d0j sz (vs.map (evT t)) h ⟨k⟩ := by
  simp only [iop, op1, d0j, eff, List.length_map]
  apply propext; constructor
  · rintro ⟨r, h', he, hk⟩
    split at he
    · rename_i hc; cases he; exact ⟨hc, hk⟩
    · cases he
  · rintro ⟨hc, hk⟩
    exact ⟨_, _, by rw [if_pos hc], hk⟩
theorem d6v {sz vs} : @d0j sz vs h ⟨k⟩ = @b48 ((vs.all fun x => b2u x && (cellsOf x).length == sz) = true) ⟨k (.rs h.nx 0 vs.length) (h.new (sz, vs.map cellsOf))⟩ := rfl
theorem b6z {α : Type} {f : α → List AV} {z : α} {sz : Nat} {zs : List Value} {b : Nat} {n : Int} {l : List α} (hz : zs.map .v = f z) (hm : mks b n z = some l)
    (hk : k (.rs h.nx 0 (List.length l)) (h.new (sz, List.map f l))) : @c55 sz zs b (I n) (I n) h ⟨k⟩ := by
  obtain ⟨h0, h1, h2, rfl⟩ := d1r hm
  rw [List.length_replicate, List.map_replicate, ← hz] at hk
  refine ⟨_, _, ?_, hk⟩
  simp only [eff, evT, if_true, Nat.one_ne_zero, if_false]
  rw [if_pos ⟨trivial, h0, h1, h2⟩]
def b6h (h : Heap) (v : AV) (o : Ob) : Heap := (match v with | .rs id _ _ => h.upd id none | _ => h).new o
theorem c40 {a : Option Addr} {b c : Nat} {o : Ob} : b6h h (.v (.slice a b c)) o = h.new o := rfl
theorem c41 {id lo len : Nat} {o : Ob} : b6h h (.rs id lo len) o = (h.upd id none).new o := rfl
def b0j (h : Heap) (v : AV) (sz : Nat) (rows : List (List AV)) : Prop := (v = .v (.slice none 0 0) ∧ rows = []) ∨ ∃ id, v = .rs id 0 rows.length ∧ h.ob id = some (sz, rows) ∧ id < h.nx
def d20 (h : Heap) (v : AV) (sz : Nat) (rows : List (List AV)) : Prop := v = .fs sz rows ∨ ∃ id, v = .rs id 0 rows.length ∧ h.ob id = some (sz, rows)
def b0a (v : AV) (i : Nat) : Prop := match v with | .rs id _ _ => ¬ id = i | _ => True
theorem b4v {α : Type} {f : α → List AV} {sz b : Nat} {s x : AV} {l m r : List α} (hs : b0j h s sz (List.map f l)) (hx : d20 h x sz (List.map f m)) (hd : ∀ i, ¬ b0a s i → b0a x i) (hn : s = .v (.slice none 0 0) → ¬ m = [])
    (ha : ap b l m = some r) (hk : k (.rs h.nx 0 (List.length r)) (b6h h s (sz, List.map f r))) : @c3e sz b s x h ⟨k⟩ := by
  obtain ⟨hb, rfl⟩ := b9w ha
  rw [List.length_append, List.map_append] at hk
  refine ⟨_, _, ?_, hk⟩
  simp only [eff, evT, if_true, Nat.one_ne_zero, if_false]
  rcases hs with ⟨rfl, hl⟩ | ⟨id, rfl, ho, hlt⟩
  · have hl' : l = [] := by simpa using hl
    subst hl'
    have hm : ¬ m.length = 0 := fun e => hn rfl (List.length_eq_zero_iff.1 e)
    rcases hx with rfl | ⟨id2, rfl, ho2⟩
    · simp only [List.length_map, hm, if_false, List.map_nil, List.nil_append, List.length_nil, Nat.zero_add, c40]
      rw [if_pos ⟨trivial, by simpa using hb⟩]
    · simp only [ho2, Option.bind_some, List.length_map, hm, if_false, List.map_nil, List.nil_append, List.length_nil, Nat.zero_add, c40]
      rw [if_pos ⟨trivial, by simp, by simpa using hb⟩]
      simp [List.take_of_length_le]
  · rcases hx with rfl | ⟨id2, rfl, ho2⟩
    · simp only [ho, Option.bind_some, List.length_map, c41]
      rw [if_pos ⟨trivial, trivial, by simp, hb⟩]
      simp [List.take_of_length_le]
    · have hne : id ≠ id2 := fun e => hd id (by simp [b0a]) e.symm
      simp only [ho, ho2, Option.bind_some, List.length_map, c41]
      rw [if_pos ⟨trivial, trivial, hne, by simp, by simp, hb⟩]
      simp [List.take_of_length_le]
theorem j6l {sz : Nat} : b0j h (.v (.slice none 0 0)) sz [] := .inl ⟨rfl, rfl⟩
theorem b4y {α : Type} {f : α → List AV} {sz : Nat} : b0j h (.v (.slice none 0 0)) sz (List.map f []) := .inl ⟨rfl, rfl⟩
theorem b3f {id n sz : Nat} {rows : List (List AV)} (ho : h.ob id = some (sz, rows)) (hl : n = rows.length) (hn : id < h.nx) : b0j h (.rs id 0 n) sz rows := .inr ⟨id, by rw [hl], ho, hn⟩
theorem b4z {id n sz : Nat} {rows : List (List AV)} (ho : h.ob id = some (sz, rows)) (hl : n = rows.length) : d20 h (.rs id 0 n) sz rows := .inr ⟨id, by rw [hl], ho⟩
theorem b2c {s : AV} {id lo n : Nat} (hs : b0a s id) : ∀ i, ¬ b0a s i → b0a (.rs id lo n) i := fun i hi e => hi (e ▸ hs)
theorem b02 {a : Value} {i : Nat} : b0a (.v a) i := trivial
theorem b03 {id lo n i : Nat} (hl : ¬ id = i) : b0a (.rs id lo n) i := hl
theorem b0q {v : AV} {sz : Nat} {rows : List (List AV)} (hv : b0j h v sz rows) {i : Nat} (hi : h.nx ≤ i) : b0a v i := by
  rcases hv with ⟨rfl, _⟩ | ⟨id, rfl, _, hlt⟩
  · trivial
  · exact fun e => by omega
theorem b9x {es : List (List AV)} {i j : Nat} {c : AV} (h : at2 es i j = some c) : ∃ e, es[i]? = some e ∧ e[j]? = some c := by
  unfold at2 at h
  cases he : es[i]? with
  | none => simp [he] at h
  | some e => exact ⟨e, rfl, by rw [he] at h; exact h⟩
theorem b35 {α : Type} {f : α → List AV} {v : AV} {sz : Nat} {l : List α} (hv : b0j h v sz (List.map f l)) (hf : ∀ a, ∀ c ∈ f a, Frz c) (hl : ∀ a, (f a).length = sz) : Fz h v (.fs sz (List.map f l)) := by
  rcases hv with ⟨rfl, hr⟩ | ⟨id, rfl, ho, _⟩
  · rw [hr]; exact .nil sz
  · refine .rs id 0 _ sz _ _ ho (by simp) rfl (fun d hd => ?_) (fun i j c d h1 h2 => ?_)
    · obtain ⟨a, _, rfl⟩ := List.mem_map.1 hd; exact hl a
    · rw [Nat.zero_add] at h1
      rw [h1] at h2; cases h2
      obtain ⟨e, he, hc⟩ := b9x h1
      obtain ⟨a, _, rfl⟩ := List.mem_map.1 (List.mem_of_getElem? he)
      exact .refl _ (hf a _ (List.mem_of_getElem? hc))
theorem b53 {α : Type} {f : α → List AV} {id n sz : Nat} {l : List α} (ho : h.ob id = some (sz, List.map f l)) (hn : n = List.length l) (hf : ∀ a, ∀ c ∈ f a, Frz c) (hl : ∀ a, (f a).length = sz) : Fz h (.rs id 0 n) (.fs sz (List.map f l)) := by
  subst hn
  refine .rs id 0 _ sz _ _ ho (by simp) (by simp) (fun d hd => ?_) (fun i j c d h1 h2 => ?_)
  · obtain ⟨a, _, rfl⟩ := List.mem_map.1 hd; exact hl a
  · rw [Nat.zero_add] at h1
    rw [h1] at h2; cases h2
    obtain ⟨e, he, hc⟩ := b9x h1
    obtain ⟨a, _, rfl⟩ := List.mem_map.1 (List.mem_of_getElem? he)
    exact .refl _ (hf a _ (List.mem_of_getElem? hc))
theorem b5e {xs ys : List AV} (hz : FzL h xs ys) : xs.length = ys.length ∧ ∀ (i : Nat) c d, xs[i]? = some c → ys[i]? = some d → Fz h c d := by
  induction hz with
  | nil => exact ⟨rfl, fun i c d hc => by simp at hc⟩
  | cons a _ ih =>
    refine ⟨by simp [ih.1], fun i c d hc hd => ?_⟩
    cases i with
    | zero => simp at hc hd; subst hc; subst hd; exact a
    | succ i => simp at hc hd; exact ih.2 i c d hc hd
theorem d4d {xs ys : List AV} (hz : FzL h xs ys) : Fz h (.tup xs) (.tup ys) := .tup _ _ (b5e hz).1 (b5e hz).2
theorem b6m {xs ys : List AV} (hz : FzL h xs ys) : Fz h (.agg xs) (.agg ys) := .agg _ _ (b5e hz).1 (b5e hz).2
theorem d4c {id sz : Nat} {xs ys : List AV} (ho : h.ob id = some (sz, [xs])) (hz : FzL h xs ys) : Fz h (.rp id 0 0) (.fp ys 0) := .rp id 0 0 sz _ _ _ ho rfl (b5e hz).1 (b5e hz).2
theorem d33 {n : Nat} {v r : AV} (ht : t n = v) (hz : Fz h v r) : b5k [.t n] r [] ⟨t, h⟩ := by
  subst ht; exact .inl ⟨rfl, [t n], rfl, hz⟩
theorem g5m {n m : Nat} {v r u s : AV} (ht : t n = v) (hu : t m = u) (hz : Fz h v r) (hz' : Fz h u s) : b5k [.t n, .t m] (.tup [r, s]) [] ⟨t, h⟩ := by
  subst ht; subst hu; exact .inl ⟨rfl, [t n, t m], rfl, d4d (.cons hz (.cons hz' .nil))⟩
theorem d32 {n sz id m : Nat} {cs : List AV} {r : AV} (ht : t n = .rp id 0 0) (ho : h.ob id = some (m, [cs])) (hl : cs.length = sz) (hz : Fz h (.agg cs) r) : b5k [.cell n true sz] r [] ⟨t, h⟩ := by
  refine .inl ⟨rfl, [.agg cs], ?_, hz⟩
  subst hl
  simp [b4q, eff, St.ev, ht, ho]
theorem b8k {n sz id m p : Nat} {cs : List AV} {r u s : AV} (ht : t n = .rp id 0 0) (ho : h.ob id = some (m, [cs])) (hl : cs.length = sz) (hu : t p = u) (hz : Fz h (.agg cs) r) (hz' : Fz h u s) : b5k [.cell n true sz, .t p] (.tup [r, s]) [] ⟨t, h⟩ := by
  refine .inl ⟨rfl, [.agg cs, u], ?_, d4d (.cons hz (.cons hz' .nil))⟩
  subst hl; subst hu
  simp [b4q, eff, St.ev, ht, ho]
theorem c2l {b : XCode} {Q : XExit → Slots → Heap → Prop} {t' : Slots} {h' : Heap} (hg : c17 ⟨t, h⟩ ⟨t', h'⟩) (hw : cw O b Q t' h') : cw O (.seq .ghost b) Q t h := ⟨⟨t', h'⟩, hg, hw⟩
def b8q (h : Heap) (v : AV) : Heap := match v with | .rs id _ _ => h.upd id none | .rp id _ _ => h.upd id none | _ => h
theorem g3a {id : Nat} : h.upd id none = h.but (· == id) := by
  simp only [Heap.upd, Heap.but, Heap.mk.injEq, and_true]
  funext j; by_cases e : j = id <;> simp [e]
theorem g27 : h = h.but fun _ => false := by simp [Heap.but]
theorem c87 {F : Nat → Bool} {s : Nat} {y : AV} (hc : c15 (h.only F) (t s) y) : c17 ⟨t, h⟩ ⟨upd t s y, h.but F⟩ := by
  refine ⟨F, rfl, rfl, fun id sz es' ho => ?_, fun j => ?_⟩
  · have ho' : (if F id then none else h.ob id) = some (sz, es') := ho
    split at ho'
    · cases ho'
    · rename_i hf
      exact ⟨by simpa using hf, es', ho', .inl rfl, fun i j d hd => ⟨d, hd, .inl rfl⟩⟩
  · show c15 _ (t j) (upd t s y j)
    by_cases e : j = s
    · subst e; rw [g0d]; exact hc
    · rw [g0c e]; exact .inl rfl
theorem g5d {b : XCode} {Q : XExit → Slots → Heap → Prop} (hw : cw O b Q t h) : cw O (.seq .ghost b) Q t h :=
  c2l ⟨fun _ => false, rfl, rfl, fun id sz es' ho => ⟨rfl, es', ho, .inl rfl, fun i j d hd => ⟨d, hd, .inl rfl⟩⟩, fun _ => .inl rfl⟩ hw
theorem b92 {α : Type} {f : α → List AV} {b : XCode} {Q : XExit → Slots → Heap → Prop} {s : Nat} {v : AV} {sz : Nat} {l : List α} (hs : t s = v) (hv : b0j h v sz (List.map f l)) (hf : ∀ a, ∀ c ∈ f a, Frz c) (hl : ∀ a, (f a).length = sz)
    (hw : cw O b Q (upd t s (.fs sz (List.map f l))) (b8q h v)) : cw O (.seq .ghost b) Q t h := by
  subst hs
  have hfr : Frz (.fs sz (List.map f l)) := .fs _ _ fun e he c hc => by obtain ⟨a, _, rfl⟩ := List.mem_map.1 he; exact hf a c hc
  rcases hv with ⟨hv, hr⟩ | ⟨id, hv, ho, hlt⟩
  · refine c2l (h' := b8q h (t s)) ?_ hw
    rw [hv]
    have := c87 (t := t) (h := h) (F := fun _ => false) (s := s) (y := .fs sz (List.map f l)) (.inr ⟨by rw [hv, hr]; exact .nil sz, hfr⟩)
    rw [← g27] at this
    exact this
  · refine c2l (h' := b8q h (t s)) ?_ hw
    rw [hv]
    have := c87 (t := t) (h := h) (F := (· == id)) (s := s) (y := .fs sz (List.map f l)) (.inr ⟨by rw [hv]; exact b53 (by simp [Heap.only, ho]) (by simp) hf hl, hfr⟩)
    rw [← g3a] at this
    exact this
theorem c2s {a : Value} : b8q h (.v a) = h := rfl
theorem c2t {id lo n : Nat} : b8q h (.rs id lo n) = h.upd id none := rfl
theorem d3z {α : Type} {f : α → List AV} {b : XCode} {Q : XExit → Slots → Heap → Prop} {id sz : Nat} {l : List α} {a : α} {raw : List AV} (F : Nat → Bool) (ho : h.ob id = some (sz, List.map f l ++ [raw])) (hi : F id = false)
    (hz : FzL (h.only F) raw (f a)) (hf : ∀ a, ∀ c ∈ f a, Frz c) (hl : ∀ a, (f a).length = sz) (hw : cw O b Q t ((h.but F).upd id (some (sz, List.map f (l ++ [a]))))) : cw O (.seq .ghost b) Q t h := by
  refine c2l (t' := t) (h' := (h.but F).upd id (some (sz, List.map f (l ++ [a])))) ⟨F, rfl, rfl, fun j n es' hj => ?_, fun _ => .inl rfl⟩ hw
  have hj' : (if j = id then some (sz, List.map f (l ++ [a])) else (if F j then none else h.ob j)) = some (n, es') := hj
  split at hj'
  · rename_i e; subst e
    simp only [Option.some.injEq, Prod.mk.injEq] at hj'
    obtain ⟨rfl, rfl⟩ := hj'
    refine ⟨hi, _, ho, .inr ⟨by simp, fun e he => ?_⟩, fun i k d hd => ?_⟩
    · obtain ⟨x, _, rfl⟩ := List.mem_map.1 he; exact hl x
    · rw [List.map_append] at hd
      by_cases hik : i < l.length
      · refine ⟨d, ?_, .inl rfl⟩
        simp only [at2] at hd ⊢
        rw [List.getElem?_append_left (by simpa using hik)] at hd ⊢
        exact hd
      · by_cases he : i = l.length
        · subst he
          have h1 : at2 (List.map f l ++ List.map f [a]) l.length k = (f a)[k]? := by simp [at2]
          have h2 : at2 (List.map f l ++ [raw]) l.length k = raw[k]? := by simp [at2]
          rw [h1] at hd; rw [h2]
          have hlen := (b5e hz).1
          obtain ⟨hk, _⟩ := List.getElem?_eq_some_iff.1 hd
          have hk' : k < raw.length := by rw [hlen]; exact hk
          exact ⟨raw[k], List.getElem?_eq_getElem hk', .inr ⟨(b5e hz).2 k _ _ (List.getElem?_eq_getElem hk') hd, hf a _ (List.mem_of_getElem? hd)⟩⟩
        · exfalso
          have : at2 (List.map f l ++ List.map f [a]) i k = none := by
            have : (List.map f l ++ List.map f [a])[i]? = none := by rw [List.getElem?_eq_none_iff]; simp; omega
            unfold at2; rw [this]; rfl
          rw [this] at hd; cases hd
  · split at hj'
    · cases hj'
    · rename_i _ hf'
      exact ⟨by simpa using hf', es', hj', .inl rfl, fun i k d hd => ⟨d, hd, .inl rfl⟩⟩
theorem d0i {α : Type} {f : α → List AV} {sz b id2 : Nat} {s : AV} {l : List α} {r : List α} {a : α} {raw : List AV} (hs : b0j h s sz (List.map f l)) (hx : h.ob id2 = some (sz, [raw])) (hd : b0a s id2)
    (ha : ap b l [a] = some r) (hk : k (.rs h.nx 0 (List.length r)) (b6h h s (sz, List.map f l ++ [raw]))) : @c3e sz b s (.rs id2 0 1) h ⟨k⟩ := by
  obtain ⟨hb, rfl⟩ := b9w ha
  rw [List.length_append] at hk
  refine ⟨_, _, ?_, hk⟩
  simp only [eff, evT, if_true, Nat.one_ne_zero, if_false]
  have hb' : (l.length + 1) * b ≤ 2 ^ 40 := by simpa using hb
  rcases hs with ⟨rfl, hl⟩ | ⟨id, rfl, ho, hlt⟩
  · have hl' : l = [] := by simpa using hl
    subst hl'
    simp only [hx, Option.bind_some, List.map_nil, List.nil_append, List.length_nil, List.length_cons, Nat.zero_add, c40, Nat.one_ne_zero, if_false]
    rw [if_pos ⟨trivial, by simp, by simpa using hb'⟩]
    simp
  · have hne : id ≠ id2 := hd
    simp only [ho, hx, Option.bind_some, List.length_map, c41]
    rw [if_pos ⟨trivial, trivial, hne, by simp, by simp, hb'⟩]
    simp [List.take_of_length_le]
end
theorem g2c {h : Heap} {v : AV} {o : Ob} : (b6h h v o).nx = nxs h.nx := by cases v <;> rfl
theorem g2d {h : Heap} {v : AV} {o : Ob} {i : Nat} (hi : b0a v i) (hl : i < h.nx) : (b6h h v o).ob i = h.ob i := by
  unfold b6h
  split
  · rw [d1u (by exact hl), d2s]; exact fun e => hi e.symm
  · exact d1u hl
theorem g2b {h : Heap} {v : AV} {o : Ob} {i : Nat} (hl : i = h.nx) : (b6h h v o).ob i = some o := by
  unfold b6h
  split
  · exact d1t hl
  · exact d1t hl
theorem g6a {h : Heap} {v : AV} : (b8q h v).nx = h.nx := by cases v <;> rfl
attribute [go_sem ↓] g81 g9v g8h g9d g8l g9h j0o g94 g98 d6v d5z
attribute [go_sem] d6v d5z c40 c41 g2c c2s c2t g6a Nat.zero_add j8c j8b
end Go.Nw
namespace Go.Nw
theorem b2x {a : Value} {w : AV} : ∀ j, ¬ b0a (.v a) j → b0a w j := fun _ hj => (hj trivial).elim
theorem b2y {v : AV} {a : Value} : ∀ j, ¬ b0a v j → b0a (.v a) j := fun _ _ => trivial
theorem b2z {id lo n : Nat} {w : AV} (hw : b0a w id) : ∀ j, ¬ b0a (.rs id lo n) j → b0a w j := fun j hj => by
  have e : id = j := by simpa [b0a] using hj
  exact e ▸ hw
theorem b2p {O l b Q t h} (post : Slots → Heap → Prop) (h1 : ∀ K : Slots → Heap → Prop, (∀ t h, post t h → K t h) → b0g O l K t h) (h2 : ∀ t h, post t h → cw O b Q t h) : cw O (.seq (.reg l) b) Q t h :=
  g5f post (h1 post fun _ _ h => h) h2
theorem b8j {O l Q t h} (post : Slots → Heap → Prop) (h1 : ∀ K : Slots → Heap → Prop, (∀ t h, post t h → K t h) → b0g O l K t h) (h2 : ∀ t h, post t h → Q .normal t h) : cw O (.reg l) Q t h :=
  g5g post (h1 post fun _ _ h => h) h2
theorem b6a {α : Type} {f : α → List AV} {h : Heap} {v : AV} {sz : Nat} {l : List α} {i : Int} {x : α} (hv : b0j h v sz (List.map f l)) (hx : get l i = some x) : ∃ id, v = .rs id 0 (List.length l) ∧ h.ob id = some (sz, List.map f l) ∧ id < h.nx := by
  rcases hv with ⟨_, hr⟩ | ⟨id, h1, h2, h3⟩
  · have : l = [] := by simpa using hr
    subst this; have := b1a hx; have := b07 hx; simp at *; omega
  · exact ⟨id, by simpa using h1, h2, h3⟩
theorem b4d (x : Int) : (eI x).length = 1 := rfl
end Go.Nw
namespace Go.Nw
theorem b05 {h h' : Heap} {v : AV} {sz : Nat} {rows : List (List AV)} (hv : b0j h v sz rows) (hk : ∀ j, ¬ b0a v j → j < h.nx → h'.ob j = h.ob j) (hn : h.nx ≤ h'.nx) : b0j h' v sz rows := by
  rcases hv with ⟨rfl, hr⟩ | ⟨id, rfl, ho, hlt⟩
  · exact .inl ⟨rfl, hr⟩
  · exact .inr ⟨id, rfl, by rw [hk id (by simp [b0a]) hlt]; exact ho, by omega⟩
end Go.Nw
namespace Go.Nw
theorem b0c {a b : Nat} (h : ¬ a = b) : ¬ b = a := fun e => h e.symm
theorem b1e {α : Type} {c : Bool} {a b : α} (h : c = true) : (if c then a else b) = a := if_pos h
theorem b1d {α : Type} {c : Bool} {a b : α} (h : c = false) : (if c then a else b) = b := if_neg (by simp [h])
attribute [go_sem] d1u d1t d2s j81 g2d g2b List.length_map Bool.true_or Bool.or_true Bool.false_or Bool.or_false Bool.true_and Bool.and_true Bool.false_and Bool.and_false Bool.false_eq_true List.length_set
end Go.Nw
namespace Go.Nw
theorem b04 {v : AV} {i j : Nat} (hj : ¬ b0a v j) (hi : b0a v i) : ¬ j = i := fun e => hj (e ▸ hi)
theorem b2d {v u : AV} (h : ∀ j, ¬ b0a v j → b0a u j) : ∀ j, ¬ b0a u j → b0a v j := fun j hj => Classical.byContradiction fun hn => hj (h j hn)
end Go.Nw
namespace Go.Nw
theorem g6e {h : Heap} {f : String} {as bs cs ds : List AV} (ha : FzL h as bs) (hc : FzL h cs ds) : Fz h (.fn f as cs) (.fn f bs ds) := .fn f _ _ _ _ (b5e ha).1 (b5e ha).2 (b5e hc).1 (b5e hc).2
end Go.Nw
namespace Go.Nw
def mn (a b : Int) : Int := if b < a then b else a
def mx (a b : Int) : Int := if b > a then b else a
theorem c00 (a b : Int) : mn a b = min a b := by unfold mn; split <;> omega
theorem b7w (a b : Int) : mx a b = max a b := by unfold mx; split <;> omega
def c0u (xs : List AV) [k : K1 AV] : Prop := ∃ r, b6k b9b xs = some r ∧ k.k r
def c0t (xs : List AV) [k : K1 AV] : Prop := ∃ r, b6k b9a xs = some r ∧ k.k r
section
variable {O : Orac} {d : Option Nat} {g : Nat} {b0 : Bool} {r : List XO} {K : Slots → Heap → Prop} {t : Slots} {h : Heap} {k : AV → Heap → Prop} {k1 : AV → Prop}
theorem g8z {xs} : b0g O (⟨d, none, .min xs⟩ :: r) K t h = @iop O (.min xs) t h ⟨fun v h' => b0g O r K (b0t t d v) h'⟩ := b3d rfl
theorem g9t {xs} : b0g O (⟨d, some (g, b0), .min xs⟩ :: r) K t h = @b29 (t g) b0 ⟨@iop O (.min xs) (upd t g (B b0)) h ⟨fun v h' => b0g O r K (b0t (upd t g (B b0)) d v) h'⟩⟩ ⟨b0g O r K (b0t (upd t g (B (!b0))) d U) h⟩ ⟨b0g O r K (b0t t d U) h⟩ := b3e rfl
theorem g8y {xs} : b0g O (⟨d, none, .max xs⟩ :: r) K t h = @iop O (.max xs) t h ⟨fun v h' => b0g O r K (b0t t d v) h'⟩ := b3d rfl
theorem g9s {xs} : b0g O (⟨d, some (g, b0), .max xs⟩ :: r) K t h = @b29 (t g) b0 ⟨@iop O (.max xs) (upd t g (B b0)) h ⟨fun v h' => b0g O r K (b0t (upd t g (B b0)) d v) h'⟩⟩ ⟨b0g O r K (b0t (upd t g (B (!b0))) d U) h⟩ ⟨b0g O r K (b0t t d U) h⟩ := b3e rfl
theorem j0m {xs} : @iop O (.min xs) t h ⟨k⟩ = @c0u (xs.map (evT t)) ⟨fun v => k v h⟩ := by
  simp only [iop, op1, c0u, eff, Option.map_eq_some_iff]
  apply propext; constructor
  · rintro ⟨r, h', ⟨x, h1, h2⟩, hk⟩; cases h2; exact ⟨_, h1, hk⟩
  · rintro ⟨r, h1, hk⟩; exact ⟨r, h, ⟨r, h1, rfl⟩, hk⟩
theorem j0l {xs} : @iop O (.max xs) t h ⟨k⟩ = @c0t (xs.map (evT t)) ⟨fun v => k v h⟩ := by
  simp only [iop, op1, c0t, eff, Option.map_eq_some_iff]
  apply propext; constructor
  · rintro ⟨r, h', ⟨x, h1, h2⟩, hk⟩; cases h2; exact ⟨_, h1, hk⟩
  · rintro ⟨r, h1, hk⟩; exact ⟨r, h, ⟨r, h1, rfl⟩, hk⟩
theorem d7m {a b : Int} {kd kd'} : @c0u [.v (.int kd a), .v (.int kd' b)] ⟨k1⟩ = k1 (.v (.int kd (mn a b))) := by
  simp [c0u, b6k, b9b, mn]
theorem d7k {a b : Int} {kd kd'} : @c0t [.v (.int kd a), .v (.int kd' b)] ⟨k1⟩ = k1 (.v (.int kd (mx a b))) := by
  simp [c0t, b6k, b9a, mx]
theorem d7n {a b c : Int} {kd kd' kd''} : @c0u [.v (.int kd a), .v (.int kd' b), .v (.int kd'' c)] ⟨k1⟩ = k1 (.v (.int kd (mn (mn a b) c))) := by
  simp [c0u, b6k, b9b, mn]
  exact Iff.rfl
theorem d7l {a b c : Int} {kd kd' kd''} : @c0t [.v (.int kd a), .v (.int kd' b), .v (.int kd'' c)] ⟨k1⟩ = k1 (.v (.int kd (mx (mx a b) c))) := by
  simp [c0t, b6k, b9a, mx]
theorem g8s {agg n o x} : b0g O (⟨d, none, .fld agg n o x⟩ :: r) K t h = @iop O (.fld agg n o x) t h ⟨fun v h' => b0g O r K (b0t t d v) h'⟩ := b3d rfl
theorem g9n {agg n o x} : b0g O (⟨d, some (g, b0), .fld agg n o x⟩ :: r) K t h = @b29 (t g) b0 ⟨@iop O (.fld agg n o x) (upd t g (B b0)) h ⟨fun v h' => b0g O r K (b0t (upd t g (B b0)) d v) h'⟩⟩ ⟨b0g O r K (b0t (upd t g (B (!b0))) d U) h⟩ ⟨b0g O r K (b0t t d U) h⟩ := b3e rfl
def d0n (agg : Bool) (n o : Nat) (x : AV) [k : K1 AV] : Prop := match x with | .agg cs => b5y agg n cs o k.k | _ => False
theorem j0f {agg n o x} : @iop O (.fld agg n o x) t h ⟨k⟩ = @d0n agg n o (evT t x) ⟨fun v => k v h⟩ := by
  simp only [iop, op1, d0n, eff]
  generalize evT t x = y
  cases y with
  | agg cs =>
    simp only [b5y, b5p]
    cases agg with
    | true =>
      simp only [if_true]
      apply propext; constructor
      · rintro ⟨r, h', he, hk⟩; split at he
        · rename_i ho; cases he; exact ⟨ho, hk⟩
        · cases he
      · rintro ⟨h1, h2⟩; exact ⟨_, _, by rw [if_pos h1], h2⟩
    | false =>
      simp only [Bool.false_eq_true, if_false, Option.map_eq_some_iff]
      apply propext; constructor
      · rintro ⟨r, h', ⟨x, h1, h2⟩, hk⟩; cases h2; exact ⟨_, h1, hk⟩
      · rintro ⟨v, h1, h2⟩; exact ⟨v, h, ⟨v, h1, rfl⟩, h2⟩
  | _ => simp
theorem d66 {agg n o cs} : @d0n agg n o (.agg cs) ⟨k1⟩ = @c3f agg n cs o ⟨k1⟩ := rfl
end
def b76 (v : AV) (j : Nat) : Bool := match v with | .rs id _ _ => id == j | .rp id _ _ => id == j | _ => false
theorem g29 {h : Heap} {F : Nat → Bool} {j : Nat} (hj : F j = false) : (h.but F).ob j = h.ob j := by simp [Heap.but, hj]
theorem g28 {h : Heap} {F : Nat → Bool} : (h.but F).nx = h.nx := by simp [Heap.but]
theorem b9e {h : Heap} {F : Nat → Bool} {j : Nat} (hj : F j = true) : (h.only F).ob j = h.ob j := by simp [Heap.only, hj]
theorem d80 {h : Heap} {F : Nat → Bool} {v : AV} {sz : Nat} {rows : List (List AV)} (hv : b0j h v sz rows) (hF : ∀ j, ¬ b0a v j → F j = true) : b0j (h.only F) v sz rows := by
  rcases hv with ⟨rfl, hr⟩ | ⟨id, rfl, ho, hlt⟩
  · exact .inl ⟨rfl, hr⟩
  · exact .inr ⟨id, rfl, by rw [b9e (hF id (by simp [b0a]))]; exact ho, hlt⟩
theorem c8x {O : Orac} {b : XCode} {Q : XExit → Slots → Heap → Prop} {t : Slots} {h : Heap} {s : Nat} {v y : AV} (F : Nat → Bool) (hs : t s = v) (hz : Fz (h.only F) v y) (hf : Frz y)
    (hw : cw O b Q (upd t s y) (h.but F)) : cw O (.seq .ghost b) Q t h := by
  subst hs
  exact c2l (c87 (.inr ⟨hz, hf⟩)) hw
theorem c8y {O : Orac} {Q : XExit → Slots → Heap → Prop} {t : Slots} {h : Heap} (hw : cw O (.seq .ghost .skip) Q t h) : cw O .ghost Q t h := hw
inductive FzR (h : Heap) : List (List AV) → List (List AV) → Prop
  | nil : FzR h [] []
  | cons {x y : List AV} {xs ys : List (List AV)} (a : FzL h x y) (b : FzR h xs ys) : FzR h (x :: xs) (y :: ys)
theorem d4e {h : Heap} {xs ys : List (List AV)} (hz : FzR h xs ys) : xs.length = ys.length ∧ ∀ (i j : Nat) c d, at2 xs i j = some c → at2 ys i j = some d → Fz h c d := by
  induction hz with
  | nil => exact ⟨rfl, fun i j c d hc => by simp [at2] at hc⟩
  | cons a _ ih =>
    refine ⟨by simp [ih.1], fun i j c d hc hd => ?_⟩
    cases i with
    | zero => simp [at2] at hc hd; exact (b5e a).2 j c d hc hd
    | succ i => exact ih.2 i j c d (by simpa [at2] using hc) (by simpa [at2] using hd)
theorem g6f {h : Heap} {id n sz : Nat} {rows rows' : List (List AV)} (ho : h.ob id = some (sz, rows)) (hn : n = rows.length) (hz : FzR h rows rows') (hl : ∀ d ∈ rows', d.length = sz) : Fz h (.rs id 0 n) (.fs sz rows') := by
  subst hn
  refine .rs id 0 _ sz _ _ ho (by simp) (d4e hz).1.symm hl (fun i j c d h1 h2 => ?_)
  rw [Nat.zero_add] at h1
  exact (d4e hz).2 i j c d h1 h2
attribute [go_sem ↓] g8z g9t g8y g9s j0m j0l g8s g9n j0f d7m d7k d7n d7l d66
attribute [go_sem] d7m d7k d7n d7l d66 g28 g29
end Go.Nw
namespace Go.Nw
theorem c7l {v : AV} {j : Nat} (hj : ¬ b0a v j) : b76 v j = true := by
  unfold b0a at hj; unfold b76
  split at hj
  · simpa using hj
  · simp at hj
end Go.Nw
namespace Go.Nw
def sub {α : Type} (l : List α) (a b : Int) : Option (List α) := if 0 ≤ a ∧ a ≤ b ∧ b ≤ l.length then some ((l.take b.toNat).drop a.toNat) else none
theorem j8o {α : Type} {l r : List α} {a b : Int} (h : sub l a b = some r) : 0 ≤ a ∧ a ≤ b ∧ b ≤ l.length ∧ r = (l.take b.toNat).drop a.toNat := by
  unfold sub at h; split at h
  · rename_i hc; cases h; exact ⟨hc.1, hc.2.1, hc.2.2, rfl⟩
  · cases h
theorem j8p {α : Type} {l : List α} {a b : Int} (h0 : 0 ≤ a) (h1 : a ≤ b) (h2 : b ≤ l.length) : sub l a b = some ((l.take b.toNat).drop a.toNat) := by
  unfold sub; rw [if_pos ⟨h0, h1, h2⟩]
def d7z (n : Nat) (x : AV) (lo hi : Option AV) (h : Heap) [k : K2] : Prop := ∃ (r' : AV) (h' : Heap), ((b3l x).bind fun len =>
    (b5x 0 lo).bind fun l =>
    (b57 len hi).bind fun r =>
    if l ≤ r then
      match x with
      | .fs sz es => if sz = n then some (.fs sz ((es.take r).drop l), h) else none
      | .rs id lo' _ => (h.ob id).bind fun o => if (l = 0 ∨ l < r) ∧ o.1 = n then some (.rs id (lo' + l) (r - l), h) else none
      | _ => none
    else none) = some (r', h') ∧ k.k r' h'
section
variable {O : Orac} {d : Option Nat} {g : Nat} {b0 : Bool} {r : List XO} {K : Slots → Heap → Prop} {t : Slots} {h : Heap} {k : AV → Heap → Prop}
theorem g85 {n x lo hi} : b0g O (⟨d, none, .slc n x lo hi⟩ :: r) K t h = @iop O (.slc n x lo hi) t h ⟨fun v h' => b0g O r K (b0t t d v) h'⟩ := b3d rfl
theorem g9z {n x lo hi} : b0g O (⟨d, some (g, b0), .slc n x lo hi⟩ :: r) K t h = @b29 (t g) b0 ⟨@iop O (.slc n x lo hi) (upd t g (B b0)) h ⟨fun v h' => b0g O r K (b0t (upd t g (B b0)) d v) h'⟩⟩ ⟨b0g O r K (b0t (upd t g (B (!b0))) d U) h⟩ ⟨b0g O r K (b0t t d U) h⟩ := b3e rfl
theorem j0s {n x lo hi} : @iop O (.slc n x lo hi) t h ⟨k⟩ = @d7z n (evT t x) (lo.map (evT t)) (hi.map (evT t)) h ⟨k⟩ := rfl
theorem j0w {α : Type} {f : α → List AV} {n : Nat} {l m : List α} {lo hi : Option Int} (hs : sub l (lo.getD 0) (hi.getD l.length) = some m) (hk : k (.fs n (List.map f m)) h) : @d7z n (.fs n (List.map f l)) (lo.map fun z => I z) (hi.map fun z => I z) h ⟨k⟩ := by
  obtain ⟨h0, h1, h2, rfl⟩ := j8o hs
  refine ⟨_, _, ?_, hk⟩
  have hb : b5x 0 (lo.map fun z => I z) = some (lo.getD 0).toNat := by
    cases lo with
    | none => rfl
    | some y => have h0' : 0 ≤ y := h0; show (if 0 ≤ y then some y.toNat else none) = some y.toNat; rw [if_pos h0']
  have hh : b57 (List.map f l).length (hi.map fun z => I z) = some (hi.getD l.length).toNat := by
    rw [List.length_map]
    cases hi with
    | none => show some l.length = some (Int.toNat l.length); simp
    | some z =>
      have h1' : 0 ≤ z := by have := h0; have := h1; simp only [Option.getD_some] at *; omega
      have h2' : z ≤ l.length := h2
      show (if 0 ≤ z ∧ z.toNat ≤ l.length then some z.toNat else none) = some z.toNat
      rw [if_pos ⟨h1', by omega⟩]
  simp only [b3l, Option.bind_some, hb, hh]
  rw [if_pos (by omega), if_pos trivial, List.map_drop, List.map_take]
end
attribute [go_sem ↓] g85 g9z j0s
attribute [go_sem] Option.map_none
end Go.Nw
namespace Go.Nw
theorem b2w {h : Heap} {v : AV} {sz : Nat} {rows : List (List AV)} {j : Nat} (hv : b0j h v sz rows) (hj : b0a v j) : b76 v j = false := by
  rcases hv with ⟨rfl, _⟩ | ⟨id, rfl, _, _⟩
  · rfl
  · simpa [b76, b0a] using hj
end Go.Nw
namespace Go.Nw
def d3a (k : IntKind) (a b : Int) : Int := k.wrap (BitVec.ofInt k.bits a &&& BitVec.ofInt k.bits b).toNat
def d3f (k : IntKind) (a b : Int) : Int := k.wrap (BitVec.ofInt k.bits a ||| BitVec.ofInt k.bits b).toNat
def d3g (k : IntKind) (a b : Int) : Int := k.wrap (BitVec.ofInt k.bits a ^^^ BitVec.ofInt k.bits b).toNat
def d3b (k : IntKind) (a b : Int) : Int := k.wrap (BitVec.ofInt k.bits a &&& ~~~(BitVec.ofInt k.bits b)).toNat
def d3d (k : IntKind) (a : Int) : Int := k.wrap (BitVec.ofInt k.bits (if k.signed then -1 else k.max) ^^^ BitVec.ofInt k.bits a).toNat
def j8e (k : IntKind) (a b : Int) : Int := k.wrap (a * 2 ^ (Nat.min b.toNat k.bits))
def j8f (k : IntKind) (a b : Int) : Int := a.fdiv (2 ^ (Nat.min b.toNat k.bits))
def shl (k : IntKind) (a b : Int) : Option Int := if b < 0 then none else some (j8e k a b)
def shr (k : IntKind) (a b : Int) : Option Int := if b < 0 then none else some (j8f k a b)
def quo (k : IntKind) (a b : Int) : Option Int := if b = 0 then none else some (k.wrap (a.tdiv b))
def rem (a b : Int) : Option Int := if b = 0 then none else some (a.tmod b)
section
variable {k : AV → Prop} {e : EqK} {kd kd' : IntKind} {a b : Int}
theorem d51 : @b3k .and e (.v (.int kd a)) (.v (.int kd b)) ⟨k⟩ = k (.v (.int kd (d3a kd a b))) := b5d (by simp [b4n, b4h, d3a])
theorem d6k : @b3k .or e (.v (.int kd a)) (.v (.int kd b)) ⟨k⟩ = k (.v (.int kd (d3f kd a b))) := b5d (by simp [b4n, b4h, d3f])
theorem d6m : @b3k .xor e (.v (.int kd a)) (.v (.int kd b)) ⟨k⟩ = k (.v (.int kd (d3g kd a b))) := b5d (by simp [b4n, b4h, d3g])
theorem d54 : @b3k .andNot e (.v (.int kd a)) (.v (.int kd b)) ⟨k⟩ = k (.v (.int kd (d3b kd a b))) := b5d (by simp [b4n, b4h, d3b])
theorem d74 : @iun .xor (.v (.int kd a)) ⟨k⟩ = k (.v (.int kd (d3d kd a))) := by
  show unK _ _ _ = _
  simp [unK, b9l, d3d]
end
def d0l (kd : IntKind) (x : AV) [k : K1 AV] : Prop := match x with | .v (.int _ n) => k.k (.v (.int kd (kd.wrap n))) | _ => False
section
variable {O : Orac} {d : Option Nat} {g : Nat} {b0 : Bool} {r : List XO} {K : Slots → Heap → Prop} {t : Slots} {h : Heap} {k : AV → Heap → Prop} {k1 : AV → Prop}
theorem g8q {kd x} : b0g O (⟨d, none, .cvtI kd x⟩ :: r) K t h = @iop O (.cvtI kd x) t h ⟨fun v h' => b0g O r K (b0t t d v) h'⟩ := b3d rfl
theorem g9l {kd x} : b0g O (⟨d, some (g, b0), .cvtI kd x⟩ :: r) K t h = @b29 (t g) b0 ⟨@iop O (.cvtI kd x) (upd t g (B b0)) h ⟨fun v h' => b0g O r K (b0t (upd t g (B b0)) d v) h'⟩⟩ ⟨b0g O r K (b0t (upd t g (B (!b0))) d U) h⟩ ⟨b0g O r K (b0t t d U) h⟩ := b3e rfl
theorem j0d {kd x} : @iop O (.cvtI kd x) t h ⟨k⟩ = @d0l kd (evT t x) ⟨fun v => k v h⟩ := by
  simp only [iop, op1, d0l, eff]
  generalize evT t x = y
  cases y with
  | v z =>
    cases z with
    | int k' n => exact ex1
    | _ => exact ex0
  | _ => exact ex0
theorem d62 {kd kd' : IntKind} {n : Int} : @d0l kd (.v (.int kd' n)) ⟨k1⟩ = k1 (.v (.int kd (kd.wrap n))) := rfl
end
attribute [go_sem ↓] g8q g9l j0d d62 d51 d6k d6m d54 d74
attribute [go_sem] d62 d51 d6k d6m d54 d74
end Go.Nw
namespace Go.Nw
theorem d56 {k : AV → Prop} {a b c d : Int} : @b3k .eql (.flat [.i, .i]) (.agg [I a, I b]) (.agg [I c, I d]) ⟨k⟩ = k (B (decide (a = c) && decide (b = d))) := by
  show b2t _ _ _ _ _ = _
  by_cases h1 : a = c <;> by_cases h2 : b = d <;> simp [b2t, b4s, b3j, b52, h1, h2]
theorem d6e {k : AV → Prop} {a b c d : Int} : @b3k .neq (.flat [.i, .i]) (.agg [I a, I b]) (.agg [I c, I d]) ⟨k⟩ = k (B (!(decide (a = c) && decide (b = d)))) := by
  show b2t _ _ _ _ _ = _
  by_cases h1 : a = c <;> by_cases h2 : b = d <;> simp [b2t, b4s, b3j, b52, h1, h2]
theorem d57 {k : AV → Prop} {a b c d x y : Int} : @b3k .eql (.flat [.i, .i, .i]) (.agg [I a, I b, I x]) (.agg [I c, I d, I y]) ⟨k⟩ = k (B (decide (a = c) && decide (b = d) && decide (x = y))) := by
  show b2t _ _ _ _ _ = _
  by_cases h1 : a = c <;> by_cases h2 : b = d <;> by_cases h3 : x = y <;> simp [b2t, b4s, b3j, b52, h1, h2, h3]
theorem d6f {k : AV → Prop} {a b c d x y : Int} : @b3k .neq (.flat [.i, .i, .i]) (.agg [I a, I b, I x]) (.agg [I c, I d, I y]) ⟨k⟩ = k (B (!(decide (a = c) && decide (b = d) && decide (x = y)))) := by
  show b2t _ _ _ _ _ = _
  by_cases h1 : a = c <;> by_cases h2 : b = d <;> by_cases h3 : x = y <;> simp [b2t, b4s, b3j, b52, h1, h2, h3]
theorem d6g {k : AV → Prop} : @b3k .eql .slice (.v (.slice none 0 0)) (.v (.slice none 0 0)) ⟨k⟩ = k (B true) := by
  show b2t _ _ _ _ _ = _
  simp [b2t, b4s, b3j, c0v]
theorem d6i {k : AV → Prop} : @b3k .neq .slice (.v (.slice none 0 0)) (.v (.slice none 0 0)) ⟨k⟩ = k (B false) := by
  show b2t _ _ _ _ _ = _
  simp [b2t, b4s, b3j, c0v]
theorem d6h {k : AV → Prop} {a b c : Nat} : @b3k .eql .slice (.rs a b c) (.v (.slice none 0 0)) ⟨k⟩ = k (B false) := by
  show b2t _ _ _ _ _ = _
  simp [b2t, b4s, b3j, c0v]
theorem d6j {k : AV → Prop} {a b c : Nat} : @b3k .neq .slice (.rs a b c) (.v (.slice none 0 0)) ⟨k⟩ = k (B true) := by
  show b2t _ _ _ _ _ = _
  simp [b2t, b4s, b3j, c0v]
attribute [go_sem ↓] d56 d6e d57 d6f d6g d6i d6h d6j
attribute [go_sem] d56 d6e d57 d6f d6g d6i d6h d6j
theorem b3z {h0 h : Heap} {v : AV} {sz i : Nat} {rows : List (List AV)} (hv : b0j h0 v sz rows) (hi : b0a v i) : (b8q h v).ob i = h.ob i := by
  rcases hv with ⟨rfl, _⟩ | ⟨id, rfl, _, _⟩
  · rfl
  · exact d2s fun e => hi e.symm
attribute [go_sem] beq_self_eq_true eq_self
theorem nxa {a b : Nat} : (nxs a = nxs b) = (a = b) := by simp [nxs]
theorem nxb {a b : Nat} : (nxs a < nxs b) = (a < b) := by simp [nxs]
theorem j3x {n : Nat} : (n < nxs n) = True := by simp only [nxs, eq_iff_iff, iff_true]; omega
theorem j4d {i n : Nat} (h : i < n) : (i < nxs n) = True := by simp only [nxs, eq_iff_iff, iff_true]; omega
theorem j11 {n : Nat} : (n = nxs n) = False := by simp only [nxs, eq_iff_iff, iff_false]; omega
theorem j2h {n : Nat} : (nxs n = n) = False := by simp only [nxs, eq_iff_iff, iff_false]; omega
theorem j2y {i n : Nat} (h : i < n) : (i = nxs n) = False := by simp only [nxs, eq_iff_iff, iff_false]; omega
theorem j3f {i n : Nat} (h : i < n) : (nxs n = i) = False := by simp only [nxs, eq_iff_iff, iff_false]; omega
theorem j35 {n : Nat} : (n < nxs (nxs n)) = True := by simp only [nxs, eq_iff_iff, iff_true]; omega
theorem j4l {i n : Nat} (h : i < n) : (i < nxs (nxs n)) = True := by simp only [nxs, eq_iff_iff, iff_true]; omega
theorem j19 {n : Nat} : (n = nxs (nxs n)) = False := by simp only [nxs, eq_iff_iff, iff_false]; omega
theorem j2p {n : Nat} : (nxs (nxs n) = n) = False := by simp only [nxs, eq_iff_iff, iff_false]; omega
theorem j26 {i n : Nat} (h : i < n) : (i = nxs (nxs n)) = False := by simp only [nxs, eq_iff_iff, iff_false]; omega
theorem j3n {i n : Nat} (h : i < n) : (nxs (nxs n) = i) = False := by simp only [nxs, eq_iff_iff, iff_false]; omega
theorem j36 {n : Nat} : (n < nxs (nxs (nxs n))) = True := by simp only [nxs, eq_iff_iff, iff_true]; omega
theorem j4m {i n : Nat} (h : i < n) : (i < nxs (nxs (nxs n))) = True := by simp only [nxs, eq_iff_iff, iff_true]; omega
theorem j2a {n : Nat} : (n = nxs (nxs (nxs n))) = False := by simp only [nxs, eq_iff_iff, iff_false]; omega
theorem j2q {n : Nat} : (nxs (nxs (nxs n)) = n) = False := by simp only [nxs, eq_iff_iff, iff_false]; omega
theorem j27 {i n : Nat} (h : i < n) : (i = nxs (nxs (nxs n))) = False := by simp only [nxs, eq_iff_iff, iff_false]; omega
theorem j3o {i n : Nat} (h : i < n) : (nxs (nxs (nxs n)) = i) = False := by simp only [nxs, eq_iff_iff, iff_false]; omega
theorem j37 {n : Nat} : (n < nxs (nxs (nxs (nxs n)))) = True := by simp only [nxs, eq_iff_iff, iff_true]; omega
theorem j4n {i n : Nat} (h : i < n) : (i < nxs (nxs (nxs (nxs n)))) = True := by simp only [nxs, eq_iff_iff, iff_true]; omega
theorem j2b {n : Nat} : (n = nxs (nxs (nxs (nxs n)))) = False := by simp only [nxs, eq_iff_iff, iff_false]; omega
theorem j2r {n : Nat} : (nxs (nxs (nxs (nxs n))) = n) = False := by simp only [nxs, eq_iff_iff, iff_false]; omega
theorem j28 {i n : Nat} (h : i < n) : (i = nxs (nxs (nxs (nxs n)))) = False := by simp only [nxs, eq_iff_iff, iff_false]; omega
theorem j3p {i n : Nat} (h : i < n) : (nxs (nxs (nxs (nxs n))) = i) = False := by simp only [nxs, eq_iff_iff, iff_false]; omega
theorem j38 {n : Nat} : (n < nxs (nxs (nxs (nxs (nxs n))))) = True := by simp only [nxs, eq_iff_iff, iff_true]; omega
theorem j4o {i n : Nat} (h : i < n) : (i < nxs (nxs (nxs (nxs (nxs n))))) = True := by simp only [nxs, eq_iff_iff, iff_true]; omega
theorem j2c {n : Nat} : (n = nxs (nxs (nxs (nxs (nxs n))))) = False := by simp only [nxs, eq_iff_iff, iff_false]; omega
theorem j2s {n : Nat} : (nxs (nxs (nxs (nxs (nxs n)))) = n) = False := by simp only [nxs, eq_iff_iff, iff_false]; omega
theorem j29 {i n : Nat} (h : i < n) : (i = nxs (nxs (nxs (nxs (nxs n))))) = False := by simp only [nxs, eq_iff_iff, iff_false]; omega
theorem j3q {i n : Nat} (h : i < n) : (nxs (nxs (nxs (nxs (nxs n)))) = i) = False := by simp only [nxs, eq_iff_iff, iff_false]; omega
theorem j39 {n : Nat} : (n < nxs (nxs (nxs (nxs (nxs (nxs n)))))) = True := by simp only [nxs, eq_iff_iff, iff_true]; omega
theorem j4p {i n : Nat} (h : i < n) : (i < nxs (nxs (nxs (nxs (nxs (nxs n)))))) = True := by simp only [nxs, eq_iff_iff, iff_true]; omega
theorem j2d {n : Nat} : (n = nxs (nxs (nxs (nxs (nxs (nxs n)))))) = False := by simp only [nxs, eq_iff_iff, iff_false]; omega
theorem j2t {n : Nat} : (nxs (nxs (nxs (nxs (nxs (nxs n))))) = n) = False := by simp only [nxs, eq_iff_iff, iff_false]; omega
theorem j3a {i n : Nat} (h : i < n) : (i = nxs (nxs (nxs (nxs (nxs (nxs n)))))) = False := by simp only [nxs, eq_iff_iff, iff_false]; omega
theorem j3r {i n : Nat} (h : i < n) : (nxs (nxs (nxs (nxs (nxs (nxs n))))) = i) = False := by simp only [nxs, eq_iff_iff, iff_false]; omega
theorem j4a {n : Nat} : (n < nxs (nxs (nxs (nxs (nxs (nxs (nxs n))))))) = True := by simp only [nxs, eq_iff_iff, iff_true]; omega
theorem j4q {i n : Nat} (h : i < n) : (i < nxs (nxs (nxs (nxs (nxs (nxs (nxs n))))))) = True := by simp only [nxs, eq_iff_iff, iff_true]; omega
theorem j2e {n : Nat} : (n = nxs (nxs (nxs (nxs (nxs (nxs (nxs n))))))) = False := by simp only [nxs, eq_iff_iff, iff_false]; omega
theorem j2u {n : Nat} : (nxs (nxs (nxs (nxs (nxs (nxs (nxs n)))))) = n) = False := by simp only [nxs, eq_iff_iff, iff_false]; omega
theorem j3b {i n : Nat} (h : i < n) : (i = nxs (nxs (nxs (nxs (nxs (nxs (nxs n))))))) = False := by simp only [nxs, eq_iff_iff, iff_false]; omega
theorem j3s {i n : Nat} (h : i < n) : (nxs (nxs (nxs (nxs (nxs (nxs (nxs n)))))) = i) = False := by simp only [nxs, eq_iff_iff, iff_false]; omega
theorem j4b {n : Nat} : (n < nxs (nxs (nxs (nxs (nxs (nxs (nxs (nxs n)))))))) = True := by simp only [nxs, eq_iff_iff, iff_true]; omega
theorem j4r {i n : Nat} (h : i < n) : (i < nxs (nxs (nxs (nxs (nxs (nxs (nxs (nxs n)))))))) = True := by simp only [nxs, eq_iff_iff, iff_true]; omega
theorem j2f {n : Nat} : (n = nxs (nxs (nxs (nxs (nxs (nxs (nxs (nxs n)))))))) = False := by simp only [nxs, eq_iff_iff, iff_false]; omega
theorem j2v {n : Nat} : (nxs (nxs (nxs (nxs (nxs (nxs (nxs (nxs n))))))) = n) = False := by simp only [nxs, eq_iff_iff, iff_false]; omega
theorem j3c {i n : Nat} (h : i < n) : (i = nxs (nxs (nxs (nxs (nxs (nxs (nxs (nxs n)))))))) = False := by simp only [nxs, eq_iff_iff, iff_false]; omega
theorem j3t {i n : Nat} (h : i < n) : (nxs (nxs (nxs (nxs (nxs (nxs (nxs (nxs n))))))) = i) = False := by simp only [nxs, eq_iff_iff, iff_false]; omega
theorem j4c {n : Nat} : (n < nxs (nxs (nxs (nxs (nxs (nxs (nxs (nxs (nxs n))))))))) = True := by simp only [nxs, eq_iff_iff, iff_true]; omega
theorem j4s {i n : Nat} (h : i < n) : (i < nxs (nxs (nxs (nxs (nxs (nxs (nxs (nxs (nxs n))))))))) = True := by simp only [nxs, eq_iff_iff, iff_true]; omega
theorem j2g {n : Nat} : (n = nxs (nxs (nxs (nxs (nxs (nxs (nxs (nxs (nxs n))))))))) = False := by simp only [nxs, eq_iff_iff, iff_false]; omega
theorem j2w {n : Nat} : (nxs (nxs (nxs (nxs (nxs (nxs (nxs (nxs (nxs n)))))))) = n) = False := by simp only [nxs, eq_iff_iff, iff_false]; omega
theorem j3d {i n : Nat} (h : i < n) : (i = nxs (nxs (nxs (nxs (nxs (nxs (nxs (nxs (nxs n))))))))) = False := by simp only [nxs, eq_iff_iff, iff_false]; omega
theorem j3u {i n : Nat} (h : i < n) : (nxs (nxs (nxs (nxs (nxs (nxs (nxs (nxs (nxs n)))))))) = i) = False := by simp only [nxs, eq_iff_iff, iff_false]; omega
theorem j3y {n : Nat} : (n < nxs (nxs (nxs (nxs (nxs (nxs (nxs (nxs (nxs (nxs n)))))))))) = True := by simp only [nxs, eq_iff_iff, iff_true]; omega
theorem j4e {i n : Nat} (h : i < n) : (i < nxs (nxs (nxs (nxs (nxs (nxs (nxs (nxs (nxs (nxs n)))))))))) = True := by simp only [nxs, eq_iff_iff, iff_true]; omega
theorem j12 {n : Nat} : (n = nxs (nxs (nxs (nxs (nxs (nxs (nxs (nxs (nxs (nxs n)))))))))) = False := by simp only [nxs, eq_iff_iff, iff_false]; omega
theorem j2i {n : Nat} : (nxs (nxs (nxs (nxs (nxs (nxs (nxs (nxs (nxs (nxs n))))))))) = n) = False := by simp only [nxs, eq_iff_iff, iff_false]; omega
theorem j2z {i n : Nat} (h : i < n) : (i = nxs (nxs (nxs (nxs (nxs (nxs (nxs (nxs (nxs (nxs n)))))))))) = False := by simp only [nxs, eq_iff_iff, iff_false]; omega
theorem j3g {i n : Nat} (h : i < n) : (nxs (nxs (nxs (nxs (nxs (nxs (nxs (nxs (nxs (nxs n))))))))) = i) = False := by simp only [nxs, eq_iff_iff, iff_false]; omega
theorem j3z {n : Nat} : (n < nxs (nxs (nxs (nxs (nxs (nxs (nxs (nxs (nxs (nxs (nxs n))))))))))) = True := by simp only [nxs, eq_iff_iff, iff_true]; omega
theorem j4f {i n : Nat} (h : i < n) : (i < nxs (nxs (nxs (nxs (nxs (nxs (nxs (nxs (nxs (nxs (nxs n))))))))))) = True := by simp only [nxs, eq_iff_iff, iff_true]; omega
theorem j13 {n : Nat} : (n = nxs (nxs (nxs (nxs (nxs (nxs (nxs (nxs (nxs (nxs (nxs n))))))))))) = False := by simp only [nxs, eq_iff_iff, iff_false]; omega
theorem j2j {n : Nat} : (nxs (nxs (nxs (nxs (nxs (nxs (nxs (nxs (nxs (nxs (nxs n)))))))))) = n) = False := by simp only [nxs, eq_iff_iff, iff_false]; omega
theorem j20 {i n : Nat} (h : i < n) : (i = nxs (nxs (nxs (nxs (nxs (nxs (nxs (nxs (nxs (nxs (nxs n))))))))))) = False := by simp only [nxs, eq_iff_iff, iff_false]; omega
theorem j3h {i n : Nat} (h : i < n) : (nxs (nxs (nxs (nxs (nxs (nxs (nxs (nxs (nxs (nxs (nxs n)))))))))) = i) = False := by simp only [nxs, eq_iff_iff, iff_false]; omega
theorem j30 {n : Nat} : (n < nxs (nxs (nxs (nxs (nxs (nxs (nxs (nxs (nxs (nxs (nxs (nxs n)))))))))))) = True := by simp only [nxs, eq_iff_iff, iff_true]; omega
theorem j4g {i n : Nat} (h : i < n) : (i < nxs (nxs (nxs (nxs (nxs (nxs (nxs (nxs (nxs (nxs (nxs (nxs n)))))))))))) = True := by simp only [nxs, eq_iff_iff, iff_true]; omega
theorem j14 {n : Nat} : (n = nxs (nxs (nxs (nxs (nxs (nxs (nxs (nxs (nxs (nxs (nxs (nxs n)))))))))))) = False := by simp only [nxs, eq_iff_iff, iff_false]; omega
theorem j2k {n : Nat} : (nxs (nxs (nxs (nxs (nxs (nxs (nxs (nxs (nxs (nxs (nxs (nxs n))))))))))) = n) = False := by simp only [nxs, eq_iff_iff, iff_false]; omega
theorem j21 {i n : Nat} (h : i < n) : (i = nxs (nxs (nxs (nxs (nxs (nxs (nxs (nxs (nxs (nxs (nxs (nxs n)))))))))))) = False := by simp only [nxs, eq_iff_iff, iff_false]; omega
theorem j3i {i n : Nat} (h : i < n) : (nxs (nxs (nxs (nxs (nxs (nxs (nxs (nxs (nxs (nxs (nxs (nxs n))))))))))) = i) = False := by simp only [nxs, eq_iff_iff, iff_false]; omega
theorem j31 {n : Nat} : (n < nxs (nxs (nxs (nxs (nxs (nxs (nxs (nxs (nxs (nxs (nxs (nxs (nxs n))))))))))))) = True := by simp only [nxs, eq_iff_iff, iff_true]; omega
theorem j4h {i n : Nat} (h : i < n) : (i < nxs (nxs (nxs (nxs (nxs (nxs (nxs (nxs (nxs (nxs (nxs (nxs (nxs n))))))))))))) = True := by simp only [nxs, eq_iff_iff, iff_true]; omega
theorem j15 {n : Nat} : (n = nxs (nxs (nxs (nxs (nxs (nxs (nxs (nxs (nxs (nxs (nxs (nxs (nxs n))))))))))))) = False := by simp only [nxs, eq_iff_iff, iff_false]; omega
theorem j2l {n : Nat} : (nxs (nxs (nxs (nxs (nxs (nxs (nxs (nxs (nxs (nxs (nxs (nxs (nxs n)))))))))))) = n) = False := by simp only [nxs, eq_iff_iff, iff_false]; omega
theorem j22 {i n : Nat} (h : i < n) : (i = nxs (nxs (nxs (nxs (nxs (nxs (nxs (nxs (nxs (nxs (nxs (nxs (nxs n))))))))))))) = False := by simp only [nxs, eq_iff_iff, iff_false]; omega
theorem j3j {i n : Nat} (h : i < n) : (nxs (nxs (nxs (nxs (nxs (nxs (nxs (nxs (nxs (nxs (nxs (nxs (nxs n)))))))))))) = i) = False := by simp only [nxs, eq_iff_iff, iff_false]; omega
theorem j32 {n : Nat} : (n < nxs (nxs (nxs (nxs (nxs (nxs (nxs (nxs (nxs (nxs (nxs (nxs (nxs (nxs n)))))))))))))) = True := by simp only [nxs, eq_iff_iff, iff_true]; omega
theorem j4i {i n : Nat} (h : i < n) : (i < nxs (nxs (nxs (nxs (nxs (nxs (nxs (nxs (nxs (nxs (nxs (nxs (nxs (nxs n)))))))))))))) = True := by simp only [nxs, eq_iff_iff, iff_true]; omega
theorem j16 {n : Nat} : (n = nxs (nxs (nxs (nxs (nxs (nxs (nxs (nxs (nxs (nxs (nxs (nxs (nxs (nxs n)))))))))))))) = False := by simp only [nxs, eq_iff_iff, iff_false]; omega
theorem j2m {n : Nat} : (nxs (nxs (nxs (nxs (nxs (nxs (nxs (nxs (nxs (nxs (nxs (nxs (nxs (nxs n))))))))))))) = n) = False := by simp only [nxs, eq_iff_iff, iff_false]; omega
theorem j23 {i n : Nat} (h : i < n) : (i = nxs (nxs (nxs (nxs (nxs (nxs (nxs (nxs (nxs (nxs (nxs (nxs (nxs (nxs n)))))))))))))) = False := by simp only [nxs, eq_iff_iff, iff_false]; omega
theorem j3k {i n : Nat} (h : i < n) : (nxs (nxs (nxs (nxs (nxs (nxs (nxs (nxs (nxs (nxs (nxs (nxs (nxs (nxs n))))))))))))) = i) = False := by simp only [nxs, eq_iff_iff, iff_false]; omega
theorem j33 {n : Nat} : (n < nxs (nxs (nxs (nxs (nxs (nxs (nxs (nxs (nxs (nxs (nxs (nxs (nxs (nxs (nxs n))))))))))))))) = True := by simp only [nxs, eq_iff_iff, iff_true]; omega
theorem j4j {i n : Nat} (h : i < n) : (i < nxs (nxs (nxs (nxs (nxs (nxs (nxs (nxs (nxs (nxs (nxs (nxs (nxs (nxs (nxs n))))))))))))))) = True := by simp only [nxs, eq_iff_iff, iff_true]; omega
theorem j17 {n : Nat} : (n = nxs (nxs (nxs (nxs (nxs (nxs (nxs (nxs (nxs (nxs (nxs (nxs (nxs (nxs (nxs n))))))))))))))) = False := by simp only [nxs, eq_iff_iff, iff_false]; omega
theorem j2n {n : Nat} : (nxs (nxs (nxs (nxs (nxs (nxs (nxs (nxs (nxs (nxs (nxs (nxs (nxs (nxs (nxs n)))))))))))))) = n) = False := by simp only [nxs, eq_iff_iff, iff_false]; omega
theorem j24 {i n : Nat} (h : i < n) : (i = nxs (nxs (nxs (nxs (nxs (nxs (nxs (nxs (nxs (nxs (nxs (nxs (nxs (nxs (nxs n))))))))))))))) = False := by simp only [nxs, eq_iff_iff, iff_false]; omega
theorem j3l {i n : Nat} (h : i < n) : (nxs (nxs (nxs (nxs (nxs (nxs (nxs (nxs (nxs (nxs (nxs (nxs (nxs (nxs (nxs n)))))))))))))) = i) = False := by simp only [nxs, eq_iff_iff, iff_false]; omega
theorem j34 {n : Nat} : (n < nxs (nxs (nxs (nxs (nxs (nxs (nxs (nxs (nxs (nxs (nxs (nxs (nxs (nxs (nxs (nxs n)))))))))))))))) = True := by simp only [nxs, eq_iff_iff, iff_true]; omega
theorem j4k {i n : Nat} (h : i < n) : (i < nxs (nxs (nxs (nxs (nxs (nxs (nxs (nxs (nxs (nxs (nxs (nxs (nxs (nxs (nxs (nxs n)))))))))))))))) = True := by simp only [nxs, eq_iff_iff, iff_true]; omega
theorem j18 {n : Nat} : (n = nxs (nxs (nxs (nxs (nxs (nxs (nxs (nxs (nxs (nxs (nxs (nxs (nxs (nxs (nxs (nxs n)))))))))))))))) = False := by simp only [nxs, eq_iff_iff, iff_false]; omega
theorem j2o {n : Nat} : (nxs (nxs (nxs (nxs (nxs (nxs (nxs (nxs (nxs (nxs (nxs (nxs (nxs (nxs (nxs (nxs n))))))))))))))) = n) = False := by simp only [nxs, eq_iff_iff, iff_false]; omega
theorem j25 {i n : Nat} (h : i < n) : (i = nxs (nxs (nxs (nxs (nxs (nxs (nxs (nxs (nxs (nxs (nxs (nxs (nxs (nxs (nxs (nxs n)))))))))))))))) = False := by simp only [nxs, eq_iff_iff, iff_false]; omega
theorem j3m {i n : Nat} (h : i < n) : (nxs (nxs (nxs (nxs (nxs (nxs (nxs (nxs (nxs (nxs (nxs (nxs (nxs (nxs (nxs (nxs n))))))))))))))) = i) = False := by simp only [nxs, eq_iff_iff, iff_false]; omega
theorem j2x {i : Nat} {h : Heap} (hl : i < h.nx) : (i = h.nx) = False := by simp only [eq_iff_iff, iff_false]; omega
theorem j3e {i : Nat} {h : Heap} (hl : i < h.nx) : (h.nx = i) = False := by simp only [eq_iff_iff, iff_false]; omega
attribute [go_sem] nxa nxb j3x j4d j11 j2h j2y j3f j35 j4l j19 j2p j26 j3n j36 j4m j2a j2q j27 j3o j37 j4n j2b j2r j28 j3p j38 j4o j2c j2s j29 j3q j39 j4p j2d j2t j3a j3r j4a j4q j2e j2u j3b j3s j4b j4r j2f j2v j3c j3t j4c j4s j2g j2w j3d j3u j3y j4e j12 j2i j2z j3g j3z j4f j13 j2j j20 j3h j30 j4g j14 j2k j21 j3i j31 j4h j15 j2l j22 j3j j32 j4i j16 j2m j23 j3k j33 j4j j17 j2n j24 j3l j34 j4k j18 j2o j25 j3m j2x j3e
end Go.Nw
