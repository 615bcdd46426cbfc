/- Own objects: rules for what makes, reads, writes and hands them over. -/
import Derived.Test.YtfahaljhgfjooaaDoorNwModel
set_option linter.all false
namespace Go.Nw
theorem d1f {h : Heap} {o : Ob} {i : Nat} (hl : i < h.nx) : (h.new o).ob i = h.ob i := by
 simp only [Heap.new]; rw [if_neg (by omega)]
theorem d1e {h : Heap} {o : Ob} {i : Nat} (hl : i = h.nx) : (h.new o).ob i = some o := by
 simp only [Heap.new]; rw [if_pos hl]
theorem d9s {h : Heap} {o : Option Ob} {i j : Nat} (hl : ¬ i = j) : (h.upd j o).ob i = h.ob i := by
 simp only [Heap.upd]; rw [if_neg hl]
theorem l09 {h : Heap} {o : Option Ob} {i j : Nat} (hl : i = j) : (h.upd j o).ob i = o := by
 simp only [Heap.upd]; rw [if_pos hl]
theorem d4v {p : Prop} : @b35 True ⟨p⟩ = p := by simp [b35]
theorem b5u {α : Type} {f : α -> List AV} {l : List α} {i : Int} {x : α} {sz : Nat} {k : Nat -> List (List AV) -> List AV -> Prop} (hx : get l i = some x) :
  @c4y (some (sz, List.map f l)) i.toNat ⟨k⟩ = k sz (List.map f l) (f x) := by
 show b63 _ _ _ = _
 simp only [d8z, List.getElem?_map, b34 hx, Option.map_some, Option.some.injEq]
 apply propext; constructor
 ·rintro ⟨_, rfl, hk⟩; exact hk
 ·exact fun hk => ⟨_, rfl, hk⟩
theorem l0h {l : List Int} {n : Nat} {v : Int} : (List.map eI l).set n [I v] = List.map eI (l.set n v) := by rw [List.map_set]; rfl
theorem l0g {l : List Bool} {n : Nat} {v : Bool} : (List.map eB l).set n [B v] = List.map eB (l.set n v) := by rw [List.map_set]; rfl
def mks {α : Type} (b : Nat) (n : Int) (z : α) : Option (List α) := if 0 <= n /\ n * b <= 2 ^ 47 /\ n < 2 ^ 63 then some (List.replicate n.toNat z) else none
theorem d1b {α : Type} {b : Nat} {n : Int} {z : α} {l : List α} (h : mks b n z = some l) : 0 <= n /\ n * b <= 2 ^ 47 /\ n < 2 ^ 63 /\ l = List.replicate n.toNat z := by
 unfold mks at h; split at h
 ·rename_i hc; cases h; exact ⟨hc.1, hc.2.1, hc.2.2, rfl⟩
 ·cases h
theorem d7x {α : Type} {b : Nat} {n : Int} {z : α} (h0 : 0 <= n) (h1 : n * b <= 2 ^ 47) (h2 : n < 2 ^ 63) : mks b n z = some (List.replicate n.toNat z) := by
 unfold mks; rw [if_pos ⟨h0, h1, h2⟩]
def ap {α : Type} (b : Nat) (l m : List α) : Option (List α) := if (l.length + m.length) * b <= 2 ^ 40 then some (l ++ m) else none
theorem b8j {α : Type} {b : Nat} {l m r : List α} (h : ap b l m = some r) : (l.length + m.length) * b <= 2 ^ 40 /\ r = l ++ m := by
 unfold ap at h; split at h
 ·rename_i hc; cases h; exact ⟨hc, rfl⟩
 ·cases h
theorem b7h {α : Type} {b : Nat} {l m : List α} (h : (l.length + m.length) * b <= 2 ^ 40) : ap b l m = some (l ++ m) := by
 unfold ap; rw [if_pos h]
def c4t (sz : Nat) (zs : List Value) (b : Nat) (l c : AV) (h : Heap) [k : K2] : Prop := ∃ r h', eff (.mksl sz zs b (.t 0) (.t 1)) (evT fun i => if i = 0 then l else c) h = some (r, h') /\ k.k r h'
def b7r (sz b : Nat) (s x : AV) (h : Heap) [k : K2] : Prop := ∃ r h', eff (.app sz b (.t 0) (.t 1)) (evT fun i => if i = 0 then s else x) h = some (r, h') /\ k.k r h'
def c9d (sz : Nat) (vs : List AV) (h : Heap) [k : K2] : Prop := (vs.all fun x => b13 x && (cellsOf x).length == sz) = true /\ k.k (.rs h.nx 0 vs.length) (h.new (sz, vs.map cellsOf))
section
variable {O : Orac} {d : Option Nat} {g : Nat} {b0 : Bool} {r : List XO} {K : Slots -> Heap -> Prop} {t : Slots} {h : Heap} {k : AV -> Heap -> Prop}
theorem g9y {sz zs b l c} : b0c O (⟨d, none, .mksl sz zs b l c⟩ :: r) K t h = @iop O (.mksl sz zs b l c) t h ⟨fun v h' => b0c O r K (b0h t d v) h'⟩ := b2i rfl
theorem j01 {sz zs b l c} : b0c O (⟨d, some (g, b0), .mksl sz zs b l c⟩ :: r) K t h = @b2c (t g) b0 ⟨@iop O (.mksl sz zs b l c) (upd t g (B b0)) h ⟨fun v h' => b0c O r K (b0h (upd t g (B b0)) d v) h'⟩⟩ ⟨b0c O r K (b0h (upd t g (B (!b0))) d U) h⟩ ⟨b0c O r K (b0h t d U) h⟩ := b2g rfl
theorem g9c {sz b s x} : b0c O (⟨d, none, .app sz b s x⟩ :: r) K t h = @iop O (.app sz b s x) t h ⟨fun v h' => b0c O r K (b0h t d v) h'⟩ := b2i rfl
theorem j0f {sz b s x} : b0c O (⟨d, some (g, b0), .app sz b s x⟩ :: r) K t h = @b2c (t g) b0 ⟨@iop O (.app sz b s x) (upd t g (B b0)) h ⟨fun v h' => b0c O r K (b0h (upd t g (B b0)) d v) h'⟩⟩ ⟨b0c O r K (b0h (upd t g (B (!b0))) d U) h⟩ ⟨b0c O r K (b0h t d U) h⟩ := b2g rfl
theorem g9g {sz vs} : b0c O (⟨d, none, .bsl sz vs⟩ :: r) K t h = @iop O (.bsl sz vs) t h ⟨fun v h' => b0c O r K (b0h t d v) h'⟩ := b2i rfl
theorem j0j {sz vs} : b0c O (⟨d, some (g, b0), .bsl sz vs⟩ :: r) K t h = @b2c (t g) b0 ⟨@iop O (.bsl sz vs) (upd t g (B b0)) h ⟨fun v h' => b0c O r K (b0h (upd t g (B b0)) d v) h'⟩⟩ ⟨b0c O r K (b0h (upd t g (B (!b0))) d U) h⟩ ⟨b0c O r K (b0h t d U) h⟩ := b2g rfl
theorem j12 {sz zs b l c} : @iop O (.mksl sz zs b l c) t h ⟨k⟩ = @c4t sz zs b (evT t l) (evT t c) h ⟨k⟩ := by
 simp only [iop, op1, c4t, eff, evT, if_true, Nat.one_ne_zero, if_false]
theorem j1g {sz b s x} : @iop O (.app sz b s x) t h ⟨k⟩ = @b7r sz b (evT t s) (evT t x) h ⟨k⟩ := by
 simp only [iop, op1, b7r, eff, evT, if_true, Nat.one_ne_zero, if_false]
theorem j1k {sz vs} : @iop O (.bsl sz vs) t h ⟨k⟩ = @c9d sz (vs.map (evT t)) h ⟨k⟩ := by
 simp only [iop, op1, c9d, eff, List.length_map]
 apply propext; constructor
 ·rintro ⟨r, h', he, hk⟩
  split at he
  ·rename_i hc; cases he; exact ⟨hc, hk⟩
  ·cases he
 ·rintro ⟨hc, hk⟩
  exact ⟨_, _, by rw [if_pos hc], hk⟩
theorem d5w {sz vs} : @c9d sz vs h ⟨k⟩ = @b35 ((vs.all fun x => b13 x && (cellsOf x).length == sz) = true) ⟨k (.rs h.nx 0 vs.length) (h.new (sz, vs.map cellsOf))⟩ := rfl
theorem d6s {α : Type} {f : α -> List AV} {z : α} {sz : Nat} {zs : List Value} {b : Nat} {n : Int} {l : List α} (hz : zs.map .v = f z) (hm : mks b n z = some l)
  (hk : k (.rs h.nx 0 (List.length l)) (h.new (sz, List.map f l))) : @c4t sz zs b (I n) (I n) h ⟨k⟩ := by
 obtain ⟨h0, h1, h2, rfl⟩ := d1b hm
 rw [List.length_replicate, List.map_replicate, <- hz] at hk
 refine ⟨_, _, ?_, hk⟩
 simp only [eff, evT, if_true, Nat.one_ne_zero, if_false]
 rw [if_pos ⟨trivial, h0, h1, h2⟩]
def b5f (h : Heap) (v : AV) (o : Ob) : Heap := (match v with | .rs id _ _ => h.upd id none | _ => h).new o
theorem c3w {a : Option Addr} {b c : Nat} {o : Ob} : b5f h (.v (.slice a b c)) o = h.new o := rfl
theorem c3x {id lo len : Nat} {o : Ob} : b5f h (.rs id lo len) o = (h.upd id none).new o := rfl
def b15 (h : Heap) (v : AV) (sz : Nat) (rows : List (List AV)) : Prop := (v = .v (.slice none 0 0) /\ rows = []) \/ ∃ id, v = .rs id 0 rows.length /\ h.ob id = some (sz, rows) /\ id < h.nx
def c8d (h : Heap) (v : AV) (sz : Nat) (rows : List (List AV)) : Prop := v = .fs sz rows \/ ∃ id, v = .rs id 0 rows.length /\ h.ob id = some (sz, rows)
def b0s (v : AV) (i : Nat) : Prop := match v with | .rs id _ _ => ¬ id = i | _ => True
theorem b22 {α : Type} {f : α -> List AV} {sz b : Nat} {s x : AV} {l m r : List α} (hs : b15 h s sz (List.map f l)) (hx : c8d h x sz (List.map f m)) (hd : ∀ i, ¬ b0s s i -> b0s x i) (hn : s = .v (.slice none 0 0) -> ¬ m = [])
  (ha : ap b l m = some r) (hk : k (.rs h.nx 0 (List.length r)) (b5f h s (sz, List.map f r))) : @b7r sz b s x h ⟨k⟩ := by
 obtain ⟨hb, rfl⟩ := b8j ha
 rw [List.length_append, List.map_append] at hk
 refine ⟨_, _, ?_, hk⟩
 simp only [eff, evT, if_true, Nat.one_ne_zero, if_false]
 rcases hs with ⟨rfl, hl⟩ | ⟨id, rfl, ho, hlt⟩
 ·have hl' : l = [] := by simpa using hl
  subst hl'
  have hm : ¬ m.length = 0 := fun e => hn rfl (List.length_eq_zero_iff.1 e)
  rcases hx with rfl | ⟨id2, rfl, ho2⟩
  ·simp only [List.length_map, hm, if_false, List.map_nil, List.nil_append, List.length_nil, Nat.zero_add, c3w]
   rw [if_pos ⟨trivial, by simpa using hb⟩]
  ·simp only [ho2, Option.bind_some, List.length_map, hm, if_false, List.map_nil, List.nil_append, List.length_nil, Nat.zero_add, c3w]
   rw [if_pos ⟨trivial, by simp, by simpa using hb⟩]
   simp [List.take_of_length_le]
 ·rcases hx with rfl | ⟨id2, rfl, ho2⟩
  ·simp only [ho, Option.bind_some, List.length_map, c3x]
   rw [if_pos ⟨trivial, trivial, by simp, hb⟩]
   simp [List.take_of_length_le]
  ·have hne : id ≠ id2 := fun e => hd id (by simp [b0s]) e.symm
   simp only [ho, ho2, Option.bind_some, List.length_map, c3x]
   rw [if_pos ⟨trivial, trivial, hne, by simp, by simp, hb⟩]
   simp [List.take_of_length_le]
theorem j8r {sz : Nat} : b15 h (.v (.slice none 0 0)) sz [] := .inl ⟨rfl, rfl⟩
theorem c5g {α : Type} {f : α -> List AV} {sz : Nat} : b15 h (.v (.slice none 0 0)) sz (List.map f []) := .inl ⟨rfl, rfl⟩
theorem b2u {id n sz : Nat} {rows : List (List AV)} (ho : h.ob id = some (sz, rows)) (hl : n = rows.length) (hn : id < h.nx) : b15 h (.rs id 0 n) sz rows := .inr ⟨id, by rw [hl], ho, hn⟩
theorem b4i {id n sz : Nat} {rows : List (List AV)} (ho : h.ob id = some (sz, rows)) (hl : n = rows.length) : c8d h (.rs id 0 n) sz rows := .inr ⟨id, by rw [hl], ho⟩
theorem b6v {sz : Nat} {rows : List (List AV)} : c8d h (.fs sz rows) sz rows := .inl rfl
theorem b4h {s : AV} {id lo n : Nat} (hs : b0s s id) : ∀ i, ¬ b0s s i -> b0s (.rs id lo n) i := fun i hi e => hi (e ▸ hs)
theorem b6u {s : AV} {sz : Nat} {rows : List (List AV)} : ∀ i, ¬ b0s s i -> b0s (.fs sz rows) i := fun _ _ => trivial
theorem b1u {a : Value} {i : Nat} : b0s (.v a) i := trivial
theorem b1v {id lo n i : Nat} (hl : ¬ id = i) : b0s (.rs id lo n) i := hl
theorem b1q {v : AV} {sz : Nat} {rows : List (List AV)} (hv : b15 h v sz rows) {i : Nat} (hi : h.nx <= i) : b0s v i := by
 rcases hv with ⟨rfl, _⟩ | ⟨id, rfl, _, hlt⟩
 ·trivial
 ·exact fun e => by omega
theorem b6b {es : List (List AV)} {i j : Nat} {c : AV} (h : at2 es i j = some c) : ∃ e, es[i]? = some e /\ e[j]? = some c := by
 unfold at2 at h
 cases he : es[i]? with
 | none => simp [he] at h
 | some e => exact ⟨e, rfl, by rw [he] at h; exact h⟩
theorem c01 {α : Type} {f : α -> List AV} {v : AV} {sz : Nat} {l : List α} (hv : b15 h v sz (List.map f l)) (hf : ∀ a, ∀ c ∈ f a, Frz c) (hl : ∀ a, (f a).length = sz) : Fz h v (.fs sz (List.map f l)) := by
 rcases hv with ⟨rfl, hr⟩ | ⟨id, rfl, ho, _⟩
 ·rw [hr]; exact .nil sz
 ·refine .rs id 0 _ sz _ _ ho (by simp) rfl (fun d hd => ?_) (fun i j c d h1 h2 => ?_)
  ·obtain ⟨a, _, rfl⟩ := List.mem_map.1 hd; exact hl a
  ·rw [Nat.zero_add] at h1
   rw [h1] at h2; cases h2
   obtain ⟨e, he, hc⟩ := b6b h1
   obtain ⟨a, _, rfl⟩ := List.mem_map.1 (List.mem_of_getElem? he)
   exact .refl _ (hf a _ (List.mem_of_getElem? hc))
theorem b29 {α : Type} {f : α -> List AV} {id n sz : Nat} {l : List α} (ho : h.ob id = some (sz, List.map f l)) (hn : n = List.length l) (hf : ∀ a, ∀ c ∈ f a, Frz c) (hl : ∀ a, (f a).length = sz) : Fz h (.rs id 0 n) (.fs sz (List.map f l)) := by
 subst hn
 refine .rs id 0 _ sz _ _ ho (by simp) (by simp) (fun d hd => ?_) (fun i j c d h1 h2 => ?_)
 ·obtain ⟨a, _, rfl⟩ := List.mem_map.1 hd; exact hl a
 ·rw [Nat.zero_add] at h1
  rw [h1] at h2; cases h2
  obtain ⟨e, he, hc⟩ := b6b h1
  obtain ⟨a, _, rfl⟩ := List.mem_map.1 (List.mem_of_getElem? he)
  exact .refl _ (hf a _ (List.mem_of_getElem? hc))
theorem b6m {xs ys : List AV} (hz : FzL h xs ys) : xs.length = ys.length /\ ∀ (i : Nat) c d, xs[i]? = some c -> ys[i]? = some d -> Fz h c d := by
 induction hz with
 | nil => exact ⟨rfl, fun i c d hc => by simp at hc⟩
 | cons a _ ih =>
  refine ⟨by simp [ih.1], fun i c d hc hd => ?_⟩
  cases i with
  | zero => simp at hc hd; subst hc; subst hd; exact a
  | succ i => simp at hc hd; exact ih.2 i c d hc hd
theorem g61 {xs ys : List AV} (hz : FzL h xs ys) : Fz h (.tup xs) (.tup ys) := .tup _ _ (b6m hz).1 (b6m hz).2
theorem d4l {xs ys : List AV} (hz : FzL h xs ys) : Fz h (.agg xs) (.agg ys) := .agg _ _ (b6m hz).1 (b6m hz).2
theorem d4n {id sz : Nat} {xs ys : List AV} (ho : h.ob id = some (sz, [xs])) (hz : FzL h xs ys) : Fz h (.rp id 0 0) (.fp ys 0) := .rp id 0 0 sz _ _ _ ho rfl (b6m hz).1 (b6m hz).2
theorem c0q {n : Nat} {v r : AV} (ht : t n = v) (hz : Fz h v r) : b4a [.t n] r [] ⟨t, h⟩ := by
 subst ht; exact .inl ⟨rfl, [t n], rfl, hz⟩
theorem d3m {n m : Nat} {v r u s : AV} (ht : t n = v) (hu : t m = u) (hz : Fz h v r) (hz' : Fz h u s) : b4a [.t n, .t m] (.tup [r, s]) [] ⟨t, h⟩ := by
 subst ht; subst hu; exact .inl ⟨rfl, [t n, t m], rfl, g61 (.cons hz (.cons hz' .nil))⟩
theorem b8t {n sz id m : Nat} {cs : List AV} {r : AV} (ht : t n = .rp id 0 0) (ho : h.ob id = some (m, [cs])) (hl : cs.length = sz) (hz : Fz h (.agg cs) r) : b4a [.cell n true sz] r [] ⟨t, h⟩ := by
 refine .inl ⟨rfl, [.agg cs], ?_, hz⟩
 subst hl
 simp [b3n, eff, St.ev, ht, ho]
theorem c34 {b : XCode} {Q : XExit -> Slots -> Heap -> Prop} {t' : Slots} {h' : Heap} (hg : b57 ⟨t, h⟩ ⟨t', h'⟩) (hw : cw O b Q t' h') : cw O (.seq .ghost b) Q t h := ⟨⟨t', h'⟩, hg, hw⟩
def b8z (h : Heap) (v : AV) : Heap := match v with | .rs id _ _ => h.upd id none | .rp id _ _ => h.upd id none | _ => h
theorem g2o {id : Nat} : h.upd id none = h.but (· == id) := by
 simp only [Heap.upd, Heap.but, Heap.mk.injEq, and_true]
 funext j; by_cases e : j = id <;> simp [e]
theorem g2l : h = h.but fun _ => false := by simp [Heap.but]
theorem c9b {F : Nat -> Bool} {s : Nat} {y : AV} (hc : b7a (h.only F) (t s) y) : b57 ⟨t, h⟩ ⟨upd t s y, h.but F⟩ := by
 refine ⟨F, rfl, rfl, fun id sz es' ho => ?_, fun j => ?_⟩
 ·have ho' : (if F id then none else h.ob id) = some (sz, es') := ho
  split at ho'
  ·cases ho'
  ·rename_i hf
   exact ⟨by simpa using hf, es', ho', .inl rfl, fun i j d hd => ⟨d, hd, .inl rfl⟩⟩
 ·show b7a _ (t j) (upd t s y j)
  by_cases e : j = s
  ·subst e; rw [d9t]; exact hc
  ·rw [d9r e]; exact .inl rfl
theorem g46 {α : Type} {f : α -> List AV} {b : XCode} {Q : XExit -> Slots -> Heap -> Prop} {s : Nat} {v : AV} {sz : Nat} {l : List α} (hs : t s = v) (hv : b15 h v sz (List.map f l)) (hf : ∀ a, ∀ c ∈ f a, Frz c) (hl : ∀ a, (f a).length = sz)
  (hw : cw O b Q (upd t s (.fs sz (List.map f l))) (b8z h v)) : cw O (.seq .ghost b) Q t h := by
 subst hs
 have hfr : Frz (.fs sz (List.map f l)) := .fs _ _ fun e he c hc => by obtain ⟨a, _, rfl⟩ := List.mem_map.1 he; exact hf a c hc
 rcases hv with ⟨hv, hr⟩ | ⟨id, hv, ho, hlt⟩
 ·refine c34 (h' := b8z h (t s)) ?_ hw
  rw [hv]
  have := c9b (t := t) (h := h) (F := fun _ => false) (s := s) (y := .fs sz (List.map f l)) (.inr ⟨by rw [hv, hr]; exact .nil sz, hfr⟩)
  rw [<- g2l] at this
  exact this
 ·refine c34 (h' := b8z h (t s)) ?_ hw
  rw [hv]
  have := c9b (t := t) (h := h) (F := (· == id)) (s := s) (y := .fs sz (List.map f l)) (.inr ⟨by rw [hv]; exact b29 (by simp [Heap.only, ho]) (by simp) hf hl, hfr⟩)
  rw [<- g2o] at this
  exact this
theorem g6v {a : Value} : b8z h (.v a) = h := rfl
theorem d4h {id lo n : Nat} : b8z h (.rs id lo n) = h.upd id none := rfl
theorem g47 {α : Type} {f : α -> List AV} {b : XCode} {Q : XExit -> Slots -> Heap -> Prop} {id sz : Nat} {l : List α} {a : α} {raw : List AV} (F : Nat -> Bool) (ho : h.ob id = some (sz, List.map f l ++ [raw])) (hi : F id = false)
  (hz : FzL (h.only F) raw (f a)) (hf : ∀ a, ∀ c ∈ f a, Frz c) (hl : ∀ a, (f a).length = sz) (hw : cw O b Q t ((h.but F).upd id (some (sz, List.map f (l ++ [a]))))) : cw O (.seq .ghost b) Q t h := by
 refine c34 (t' := t) (h' := (h.but F).upd id (some (sz, List.map f (l ++ [a])))) ⟨F, rfl, rfl, fun j n es' hj => ?_, fun _ => .inl rfl⟩ hw
 have hj' : (if j = id then some (sz, List.map f (l ++ [a])) else (if F j then none else h.ob j)) = some (n, es') := hj
 split at hj'
 ·rename_i e; subst e
  simp only [Option.some.injEq, Prod.mk.injEq] at hj'
  obtain ⟨rfl, rfl⟩ := hj'
  refine ⟨hi, _, ho, .inr ⟨by simp, fun e he => ?_⟩, fun i k d hd => ?_⟩
  ·obtain ⟨x, _, rfl⟩ := List.mem_map.1 he; exact hl x
  ·rw [List.map_append] at hd
   by_cases hik : i < l.length
   ·refine ⟨d, ?_, .inl rfl⟩
    simp only [at2] at hd ⊢
    rw [List.getElem?_append_left (by simpa using hik)] at hd ⊢
    exact hd
   ·by_cases he : i = l.length
    ·subst he
     have h1 : at2 (List.map f l ++ List.map f [a]) l.length k = (f a)[k]? := by simp [at2]
     have h2 : at2 (List.map f l ++ [raw]) l.length k = raw[k]? := by simp [at2]
     rw [h1] at hd; rw [h2]
     have hlen := (b6m hz).1
     obtain ⟨hk, _⟩ := List.getElem?_eq_some_iff.1 hd
     have hk' : k < raw.length := by rw [hlen]; exact hk
     exact ⟨raw[k], List.getElem?_eq_getElem hk', .inr ⟨(b6m hz).2 k _ _ (List.getElem?_eq_getElem hk') hd, hf a _ (List.mem_of_getElem? hd)⟩⟩
    ·exfalso
     have : at2 (List.map f l ++ List.map f [a]) i k = none := by
      have : (List.map f l ++ List.map f [a])[i]? = none := by rw [List.getElem?_eq_none_iff]; simp; omega
      unfold at2; rw [this]; rfl
     rw [this] at hd; cases hd
 ·split at hj'
  ·cases hj'
  ·rename_i _ hf'
   exact ⟨by simpa using hf', es', hj', .inl rfl, fun i k d hd => ⟨d, hd, .inl rfl⟩⟩
theorem d4w {α : Type} {f : α -> List AV} {sz b id2 : Nat} {s : AV} {l : List α} {r : List α} {a : α} {raw : List AV} (hs : b15 h s sz (List.map f l)) (hx : h.ob id2 = some (sz, [raw])) (hd : b0s s id2)
  (ha : ap b l [a] = some r) (hk : k (.rs h.nx 0 (List.length r)) (b5f h s (sz, List.map f l ++ [raw]))) : @b7r sz b s (.rs id2 0 1) h ⟨k⟩ := by
 obtain ⟨hb, rfl⟩ := b8j ha
 rw [List.length_append] at hk
 refine ⟨_, _, ?_, hk⟩
 simp only [eff, evT, if_true, Nat.one_ne_zero, if_false]
 have hb' : (l.length + 1) * b <= 2 ^ 40 := by simpa using hb
 rcases hs with ⟨rfl, hl⟩ | ⟨id, rfl, ho, hlt⟩
 ·have hl' : l = [] := by simpa using hl
  subst hl'
  simp only [hx, Option.bind_some, List.map_nil, List.nil_append, List.length_nil, List.length_cons, Nat.zero_add, c3w, Nat.one_ne_zero, if_false]
  rw [if_pos ⟨trivial, by simp, by simpa using hb'⟩]
  simp
 ·have hne : id ≠ id2 := hd
  simp only [ho, hx, Option.bind_some, List.length_map, c3x]
  rw [if_pos ⟨trivial, trivial, hne, by simp, by simp, hb'⟩]
  simp [List.take_of_length_le]
end
theorem g1r {h : Heap} {v : AV} {o : Ob} : (b5f h v o).nx = nxs h.nx := by cases v <;> rfl
theorem g1s {h : Heap} {v : AV} {o : Ob} {i : Nat} (hi : b0s v i) (hl : i < h.nx) : (b5f h v o).ob i = h.ob i := by
 unfold b5f
 split
 ·rw [d1f (by exact hl), d9s]; exact fun e => hi e.symm
 ·exact d1f hl
theorem g1q {h : Heap} {v : AV} {o : Ob} {i : Nat} (hl : i = h.nx) : (b5f h v o).ob i = some o := by
 unfold b5f
 split
 ·exact d1e hl
 ·exact d1e hl
theorem g6w {h : Heap} {v : AV} : (b8z h v).nx = h.nx := by cases v <;> rfl
attribute [go_sem ↓] g9y j01 g9c j0f g9g j0j j12 j1g j1k d5w d4v
attribute [go_sem] d5w d4v c3w c3x g1r g6v d4h g6w Nat.zero_add l0h l0g
end Go.Nw
namespace Go.Nw
theorem b2v {O l b Q t h} (post : Slots -> Heap -> Prop) (h1 : ∀ K : Slots -> Heap -> Prop, (∀ t h, post t h -> K t h) -> b0c O l K t h) (h2 : ∀ t h, post t h -> cw O b Q t h) : cw O (.seq (.reg l) b) Q t h :=
 g49 post (h1 post fun _ _ h => h) h2
theorem b8r {O l Q t h} (post : Slots -> Heap -> Prop) (h1 : ∀ K : Slots -> Heap -> Prop, (∀ t h, post t h -> K t h) -> b0c O l K t h) (h2 : ∀ t h, post t h -> Q .normal t h) : cw O (.reg l) Q t h :=
 g5a post (h1 post fun _ _ h => h) h2
theorem c1j (x : Int) : (eI x).length = 1 := rfl
end Go.Nw
namespace Go.Nw
theorem b3d {h h' : Heap} {v : AV} {sz : Nat} {rows : List (List AV)} (hv : b15 h v sz rows) (hk : ∀ j, ¬ b0s v j -> j < h.nx -> h'.ob j = h.ob j) (hn : h.nx <= h'.nx) : b15 h' v sz rows := by
 rcases hv with ⟨rfl, hr⟩ | ⟨id, rfl, ho, hlt⟩
 ·exact .inl ⟨rfl, hr⟩
 ·exact .inr ⟨id, rfl, by rw [hk id (by simp [b0s]) hlt]; exact ho, by omega⟩
end Go.Nw
namespace Go.Nw
theorem b1x {a b : Nat} (h : ¬ a = b) : ¬ b = a := fun e => h e.symm
theorem b0q {α : Type} {c : Bool} {a b : α} (h : c = true) : (if c then a else b) = a := if_pos h
theorem b0p {α : Type} {c : Bool} {a b : α} (h : c = false) : (if c then a else b) = b := if_neg (by simp [h])
attribute [go_sem] d1f d1e d9s l09 g1s g1q List.length_map Bool.true_or Bool.or_true Bool.false_or Bool.or_false Bool.true_and Bool.and_true Bool.false_and Bool.and_false Bool.false_eq_true List.length_set
end Go.Nw
namespace Go.Nw
theorem b39 {v : AV} {i j : Nat} (hj : ¬ b0s v j) (hi : b0s v i) : ¬ j = i := fun e => hj (e ▸ hi)
end Go.Nw
namespace Go.Nw
end Go.Nw
namespace Go.Nw
def mn (a b : Int) : Int := if b < a then b else a
def mx (a b : Int) : Int := if b > a then b else a
theorem d7y (a b : Int) : mn a b = min a b := by unfold mn; split <;> omega
theorem d77 (a b : Int) : mx a b = max a b := by unfold mx; split <;> omega
def b86 (xs : List AV) [k : K1 AV] : Prop := ∃ r, b4v b6t xs = some r /\ k.k r
def b85 (xs : List AV) [k : K1 AV] : Prop := ∃ r, b4v b6r xs = some r /\ k.k r
section
variable {O : Orac} {d : Option Nat} {g : Nat} {b0 : Bool} {r : List XO} {K : Slots -> Heap -> Prop} {t : Slots} {h : Heap} {k : AV -> Heap -> Prop} {k1 : AV -> Prop}
theorem g9w {xs} : b0c O (⟨d, none, .min xs⟩ :: r) K t h = @iop O (.min xs) t h ⟨fun v h' => b0c O r K (b0h t d v) h'⟩ := b2i rfl
theorem j0z {xs} : b0c O (⟨d, some (g, b0), .min xs⟩ :: r) K t h = @b2c (t g) b0 ⟨@iop O (.min xs) (upd t g (B b0)) h ⟨fun v h' => b0c O r K (b0h (upd t g (B b0)) d v) h'⟩⟩ ⟨b0c O r K (b0h (upd t g (B (!b0))) d U) h⟩ ⟨b0c O r K (b0h t d U) h⟩ := b2g rfl
theorem g9v {xs} : b0c O (⟨d, none, .max xs⟩ :: r) K t h = @iop O (.max xs) t h ⟨fun v h' => b0c O r K (b0h t d v) h'⟩ := b2i rfl
theorem j0y {xs} : b0c O (⟨d, some (g, b0), .max xs⟩ :: r) K t h = @b2c (t g) b0 ⟨@iop O (.max xs) (upd t g (B b0)) h ⟨fun v h' => b0c O r K (b0h (upd t g (B b0)) d v) h'⟩⟩ ⟨b0c O r K (b0h (upd t g (B (!b0))) d U) h⟩ ⟨b0c O r K (b0h t d U) h⟩ := b2g rfl
theorem j10 {xs} : @iop O (.min xs) t h ⟨k⟩ = @b86 (xs.map (evT t)) ⟨fun v => k v h⟩ := by
 simp only [iop, op1, b86, eff, Option.map_eq_some_iff]
 apply propext; constructor
 ·rintro ⟨r, h', ⟨x, h1, h2⟩, hk⟩; cases h2; exact ⟨_, h1, hk⟩
 ·rintro ⟨r, h1, hk⟩; exact ⟨r, h, ⟨r, h1, rfl⟩, hk⟩
theorem j1z {xs} : @iop O (.max xs) t h ⟨k⟩ = @b85 (xs.map (evT t)) ⟨fun v => k v h⟩ := by
 simp only [iop, op1, b85, eff, Option.map_eq_some_iff]
 apply propext; constructor
 ·rintro ⟨r, h', ⟨x, h1, h2⟩, hk⟩; cases h2; exact ⟨_, h1, hk⟩
 ·rintro ⟨r, h1, hk⟩; exact ⟨r, h, ⟨r, h1, rfl⟩, hk⟩
theorem d6q {a b : Int} {kd kd'} : @b86 [.v (.int kd a), .v (.int kd' b)] ⟨k1⟩ = k1 (.v (.int kd (mn a b))) := by
 simp [b86, b4v, b6t, mn]
theorem d6o {a b : Int} {kd kd'} : @b85 [.v (.int kd a), .v (.int kd' b)] ⟨k1⟩ = k1 (.v (.int kd (mx a b))) := by
 simp [b85, b4v, b6r, mx]
theorem d6r {a b c : Int} {kd kd' kd''} : @b86 [.v (.int kd a), .v (.int kd' b), .v (.int kd'' c)] ⟨k1⟩ = k1 (.v (.int kd (mn (mn a b) c))) := by
 simp [b86, b4v, b6t, mn]
 exact Iff.rfl
theorem d6p {a b c : Int} {kd kd' kd''} : @b85 [.v (.int kd a), .v (.int kd' b), .v (.int kd'' c)] ⟨k1⟩ = k1 (.v (.int kd (mx (mx a b) c))) := by
 simp [b85, b4v, b6r, mx]
theorem g9n {agg n o x} : b0c O (⟨d, none, .fld agg n o x⟩ :: r) K t h = @iop O (.fld agg n o x) t h ⟨fun v h' => b0c O r K (b0h t d v) h'⟩ := b2i rfl
theorem j0q {agg n o x} : b0c O (⟨d, some (g, b0), .fld agg n o x⟩ :: r) K t h = @b2c (t g) b0 ⟨@iop O (.fld agg n o x) (upd t g (B b0)) h ⟨fun v h' => b0c O r K (b0h (upd t g (B b0)) d v) h'⟩⟩ ⟨b0c O r K (b0h (upd t g (B (!b0))) d U) h⟩ ⟨b0c O r K (b0h t d U) h⟩ := b2g rfl
def c9i (agg : Bool) (n o : Nat) (x : AV) [k : K1 AV] : Prop := match x with | .agg cs => b44 agg n cs o k.k | _ => False
theorem j1r {agg n o x} : @iop O (.fld agg n o x) t h ⟨k⟩ = @c9i agg n o (evT t x) ⟨fun v => k v h⟩ := by
 simp only [iop, op1, c9i, eff]
 generalize evT t x = y
 cases y with
 | agg cs =>
  simp only [b44, b4e]
  cases agg with
  | true =>
   simp only [if_true]
   apply propext; constructor
   ·rintro ⟨r, h', he, hk⟩; split at he
    ·rename_i ho; cases he; exact ⟨ho, hk⟩
    ·cases he
   ·rintro ⟨h1, h2⟩; exact ⟨_, _, by rw [if_pos h1], h2⟩
  | false =>
   simp only [Bool.false_eq_true, if_false, Option.map_eq_some_iff]
   apply propext; constructor
   ·rintro ⟨r, h', ⟨x, h1, h2⟩, hk⟩; cases h2; exact ⟨_, h1, hk⟩
   ·rintro ⟨v, h1, h2⟩; exact ⟨v, h, ⟨v, h1, rfl⟩, h2⟩
 | _ => simp
theorem d56 {agg n o cs} : @c9i agg n o (.agg cs) ⟨k1⟩ = @c06 agg n cs o ⟨k1⟩ := rfl
end
def b9z (v : AV) (j : Nat) : Bool := match v with | .rs id _ _ => id == j | .rp id _ _ => id == j | _ => false
theorem g2n {h : Heap} {F : Nat -> Bool} {j : Nat} (hj : F j = false) : (h.but F).ob j = h.ob j := by simp [Heap.but, hj]
theorem g2m {h : Heap} {F : Nat -> Bool} : (h.but F).nx = h.nx := by simp [Heap.but]
theorem c5a {h : Heap} {F : Nat -> Bool} {j : Nat} (hj : F j = true) : (h.only F).ob j = h.ob j := by simp [Heap.only, hj]
theorem g45 {O : Orac} {b : XCode} {Q : XExit -> Slots -> Heap -> Prop} {t : Slots} {h : Heap} {s : Nat} {v y : AV} (F : Nat -> Bool) (hs : t s = v) (hz : Fz (h.only F) v y) (hf : Frz y)
  (hw : cw O b Q (upd t s y) (h.but F)) : cw O (.seq .ghost b) Q t h := by
 subst hs
 exact c34 (c9b (.inr ⟨hz, hf⟩)) hw
theorem g48 {O : Orac} {Q : XExit -> Slots -> Heap -> Prop} {t : Slots} {h : Heap} (hw : cw O (.seq .ghost .skip) Q t h) : cw O .ghost Q t h := hw
inductive FzR (h : Heap) : List (List AV) -> List (List AV) -> Prop
 | nil : FzR h [] []
 | cons {x y : List AV} {xs ys : List (List AV)} (a : FzL h x y) (b : FzR h xs ys) : FzR h (x :: xs) (y :: ys)
attribute [go_sem ↓] g9w j0z g9v j0y j10 j1z g9n j0q j1r d6q d6o d6r d6p d56
attribute [go_sem] d6q d6o d6r d6p d56 g2m g2n
end Go.Nw
namespace Go.Nw
theorem d9u {v : AV} {j : Nat} (hj : ¬ b0s v j) : b9z v j = true := by
 unfold b0s at hj; unfold b9z
 split at hj
 ·simpa using hj
 ·simp at hj
end Go.Nw
namespace Go.Nw
def sub {α : Type} (l : List α) (a b : Int) : Option (List α) := if 0 <= a /\ a <= b /\ b <= l.length then some ((l.take b.toNat).drop a.toNat) else none
def c9q (n : Nat) (x : AV) (lo hi : Option AV) (h : Heap) [k : K2] : Prop := ∃ (r' : AV) (h' : Heap), ((b2o x).bind fun len =>
  (b4r 0 lo).bind fun l =>
  (b4x len hi).bind fun r =>
  if l <= r then
   match x with
   | .fs sz es => if sz = n then some (.fs sz ((es.take r).drop l), h) else none
   | .rs id lo' _ => (h.ob id).bind fun o => if (l = 0 \/ l < r) /\ o.1 = n then some (.rs id (lo' + l) (r - l), h) else none
   | .v (.slice none 0 0) => some (.v (.slice none 0 0), h)
   | _ => none
  else none) = some (r', h') /\ k.k r' h'
section
variable {O : Orac} {d : Option Nat} {g : Nat} {b0 : Bool} {r : List XO} {K : Slots -> Heap -> Prop} {t : Slots} {h : Heap} {k : AV -> Heap -> Prop}
theorem g92 {n x lo hi} : b0c O (⟨d, none, .slc n x lo hi⟩ :: r) K t h = @iop O (.slc n x lo hi) t h ⟨fun v h' => b0c O r K (b0h t d v) h'⟩ := b2i rfl
theorem j05 {n x lo hi} : b0c O (⟨d, some (g, b0), .slc n x lo hi⟩ :: r) K t h = @b2c (t g) b0 ⟨@iop O (.slc n x lo hi) (upd t g (B b0)) h ⟨fun v h' => b0c O r K (b0h (upd t g (B b0)) d v) h'⟩⟩ ⟨b0c O r K (b0h (upd t g (B (!b0))) d U) h⟩ ⟨b0c O r K (b0h t d U) h⟩ := b2g rfl
theorem j16 {n x lo hi} : @iop O (.slc n x lo hi) t h ⟨k⟩ = @c9q n (evT t x) (lo.map (evT t)) (hi.map (evT t)) h ⟨k⟩ := rfl
end
attribute [go_sem ↓] g92 j05 j16
attribute [go_sem] Option.map_none
end Go.Nw
namespace Go.Nw
theorem d9v {h : Heap} {v : AV} {sz : Nat} {rows : List (List AV)} {j : Nat} (hv : b15 h v sz rows) (hj : b0s v j) : b9z v j = false := by
 rcases hv with ⟨rfl, _⟩ | ⟨id, rfl, _, _⟩
 ·rfl
 ·simpa [b9z, b0s] using hj
end Go.Nw
namespace Go.Nw
def c8f (k : IntKind) (a b : Int) : Int := k.wrap (BitVec.ofInt k.bits a &&& BitVec.ofInt k.bits b).toNat
def c8i (k : IntKind) (a b : Int) : Int := k.wrap (BitVec.ofInt k.bits a ||| BitVec.ofInt k.bits b).toNat
def d2x (k : IntKind) (a b : Int) : Int := k.wrap (BitVec.ofInt k.bits a ^^^ BitVec.ofInt k.bits b).toNat
def c8g (k : IntKind) (a b : Int) : Int := k.wrap (BitVec.ofInt k.bits a &&& ~~~(BitVec.ofInt k.bits b)).toNat
def d2w (k : IntKind) (a : Int) : Int := k.wrap (BitVec.ofInt k.bits (if k.signed then -1 else k.max) ^^^ BitVec.ofInt k.bits a).toNat
abbrev b6c (a b : Int) : Int := c8f .i64 a b
abbrev bor (a b : Int) : Int := c8i .i64 a b
abbrev g1x (a b : Int) : Int := c8g .i64 a b
def c6d (k : IntKind) (a b : Int) : Int := k.wrap (a * 2 ^ (Nat.min b.toNat k.bits))
def d14 (k : IntKind) (a b : Int) : Int := a.fdiv (2 ^ (Nat.min b.toNat k.bits))
def shl (k : IntKind) (a b : Int) : Option Int := if b < 0 then none else some (c6d k a b)
def shr (k : IntKind) (a b : Int) : Option Int := if b < 0 then none else some (d14 k a b)
def quo (k : IntKind) (a b : Int) : Option Int := if b = 0 then none else some (k.wrap (a.tdiv b))
def rem (a b : Int) : Option Int := if b = 0 then none else some (a.tmod b)
theorem l0m {k : IntKind} {a b : Int} (h : 0 <= b) : shl k a b = some (c6d k a b) := by unfold shl; rw [if_neg (by omega)]
theorem d9b {k : IntKind} {a b : Int} (h : 0 <= b) : shr k a b = some (d14 k a b) := by unfold shr; rw [if_neg (by omega)]
section
variable {k : AV -> Prop} {e : EqK} {kd kd' : IntKind} {a b : Int}
theorem d4y : @b2b .and e (.v (.int kd a)) (.v (.int kd b)) ⟨k⟩ = k (.v (.int kd (c8f kd a b))) := b4l (by simp [b3a, b3r, c8f])
theorem d5j : @b2b .or e (.v (.int kd a)) (.v (.int kd b)) ⟨k⟩ = k (.v (.int kd (c8i kd a b))) := b4l (by simp [b3a, b3r, c8i])
theorem d5n : @b2b .xor e (.v (.int kd a)) (.v (.int kd b)) ⟨k⟩ = k (.v (.int kd (d2x kd a b))) := b4l (by simp [b3a, b3r, d2x])
theorem d41 : @b2b .andNot e (.v (.int kd a)) (.v (.int kd b)) ⟨k⟩ = k (.v (.int kd (c8g kd a b))) := b4l (by simp [b3a, b3r, c8g])
theorem c04 {r : Int} (h : shl kd a b = some r) : @b2b .shl e (.v (.int kd a)) (.v (.int kd' b)) ⟨k⟩ = k (.v (.int kd r)) := by
 unfold shl at h; split at h
 ·cases h
 ·rename_i hb; cases h
  show b1l _ _ _ _ _ = _
  simp [b1l, b2z, b3a, b9v, hb, c6d]
theorem c4n {r : Int} (h : shr kd a b = some r) : @b2b .shr e (.v (.int kd a)) (.v (.int kd' b)) ⟨k⟩ = k (.v (.int kd r)) := by
 unfold shr at h; split at h
 ·cases h
 ·rename_i hb; cases h
  show b1l _ _ _ _ _ = _
  simp [b1l, b2z, b3a, b9v, hb, d14]
theorem d69 : @iun .xor (.v (.int kd a)) ⟨k⟩ = k (.v (.int kd (d2w kd a))) := by
 show unK _ _ _ = _
 simp [unK, b67, d2w]
end
def c9g (kd : IntKind) (x : AV) [k : K1 AV] : Prop := match x with | .v (.int _ n) => k.k (.v (.int kd (kd.wrap n))) | _ => False
section
variable {O : Orac} {d : Option Nat} {g : Nat} {b0 : Bool} {r : List XO} {K : Slots -> Heap -> Prop} {t : Slots} {h : Heap} {k : AV -> Heap -> Prop} {k1 : AV -> Prop}
theorem g9l {kd x} : b0c O (⟨d, none, .cvtI kd x⟩ :: r) K t h = @iop O (.cvtI kd x) t h ⟨fun v h' => b0c O r K (b0h t d v) h'⟩ := b2i rfl
theorem j0o {kd x} : b0c O (⟨d, some (g, b0), .cvtI kd x⟩ :: r) K t h = @b2c (t g) b0 ⟨@iop O (.cvtI kd x) (upd t g (B b0)) h ⟨fun v h' => b0c O r K (b0h (upd t g (B b0)) d v) h'⟩⟩ ⟨b0c O r K (b0h (upd t g (B (!b0))) d U) h⟩ ⟨b0c O r K (b0h t d U) h⟩ := b2g rfl
theorem j1p {kd x} : @iop O (.cvtI kd x) t h ⟨k⟩ = @c9g kd (evT t x) ⟨fun v => k v h⟩ := by
 simp only [iop, op1, c9g, eff]
 generalize evT t x = y
 cases y with
 | v z =>
  cases z with
  | int k' n => exact ex1
  | _ => exact ex0
 | _ => exact ex0
theorem d52 {kd kd' : IntKind} {n : Int} : @c9g kd (.v (.int kd' n)) ⟨k1⟩ = k1 (.v (.int kd (kd.wrap n))) := rfl
end
attribute [go_sem ↓] g9l j0o j1p d52 d4y d5j d5n d41 d69
attribute [go_sem] d52 d4y d5j d5n d41 d69
end Go.Nw
namespace Go.Nw
theorem d44 {k : AV -> Prop} {a b c d : Int} : @b2b .eql (.flat [.i, .i]) (.agg [I a, I b]) (.agg [I c, I d]) ⟨k⟩ = k (B (decide (a = c) && decide (b = d))) := by
 show b1l _ _ _ _ _ = _
 by_cases h1 : a = c <;> by_cases h2 : b = d <;> simp [b1l, b2z, b2q, b3l, h1, h2]
theorem d5d {k : AV -> Prop} {a b c d : Int} : @b2b .neq (.flat [.i, .i]) (.agg [I a, I b]) (.agg [I c, I d]) ⟨k⟩ = k (B (!(decide (a = c) && decide (b = d)))) := by
 show b1l _ _ _ _ _ = _
 by_cases h1 : a = c <;> by_cases h2 : b = d <;> simp [b1l, b2z, b2q, b3l, h1, h2]
theorem d45 {k : AV -> Prop} {a b c d x y : Int} : @b2b .eql (.flat [.i, .i, .i]) (.agg [I a, I b, I x]) (.agg [I c, I d, I y]) ⟨k⟩ = k (B (decide (a = c) && decide (b = d) && decide (x = y))) := by
 show b1l _ _ _ _ _ = _
 by_cases h1 : a = c <;> by_cases h2 : b = d <;> by_cases h3 : x = y <;> simp [b1l, b2z, b2q, b3l, h1, h2, h3]
theorem d5e {k : AV -> Prop} {a b c d x y : Int} : @b2b .neq (.flat [.i, .i, .i]) (.agg [I a, I b, I x]) (.agg [I c, I d, I y]) ⟨k⟩ = k (B (!(decide (a = c) && decide (b = d) && decide (x = y)))) := by
 show b1l _ _ _ _ _ = _
 by_cases h1 : a = c <;> by_cases h2 : b = d <;> by_cases h3 : x = y <;> simp [b1l, b2z, b2q, b3l, h1, h2, h3]
theorem d5f {k : AV -> Prop} : @b2b .eql .slice (.v (.slice none 0 0)) (.v (.slice none 0 0)) ⟨k⟩ = k (B true) := by
 show b1l _ _ _ _ _ = _
 simp [b1l, b2z, b2q, b87]
theorem d5h {k : AV -> Prop} : @b2b .neq .slice (.v (.slice none 0 0)) (.v (.slice none 0 0)) ⟨k⟩ = k (B false) := by
 show b1l _ _ _ _ _ = _
 simp [b1l, b2z, b2q, b87]
theorem d5g {k : AV -> Prop} {a b c : Nat} : @b2b .eql .slice (.rs a b c) (.v (.slice none 0 0)) ⟨k⟩ = k (B false) := by
 show b1l _ _ _ _ _ = _
 simp [b1l, b2z, b2q, b87]
theorem d5i {k : AV -> Prop} {a b c : Nat} : @b2b .neq .slice (.rs a b c) (.v (.slice none 0 0)) ⟨k⟩ = k (B true) := by
 show b1l _ _ _ _ _ = _
 simp [b1l, b2z, b2q, b87]
attribute [go_sem ↓] d44 d5d d45 d5e d5f d5h d5g d5i
attribute [go_sem] d44 d5d d45 d5e d5f d5h d5g d5i
attribute [go_sem] beq_self_eq_true eq_self
theorem nxa {a b : Nat} : (nxs a = nxs b) = (a = b) := by simp [nxs]
theorem nxb {a b : Nat} : (nxs a < nxs b) = (a < b) := by simp [nxs]
theorem j52 {n : Nat} : (n < nxs n) = True := by simp only [nxs, eq_iff_iff, iff_true]; omega
theorem j6i {i n : Nat} (h : i < n) : (i < nxs n) = True := by simp only [nxs, eq_iff_iff, iff_true]; omega
theorem j35 {n : Nat} : (n = nxs n) = False := by simp only [nxs, eq_iff_iff, iff_false]; omega
theorem j4l {n : Nat} : (nxs n = n) = False := by simp only [nxs, eq_iff_iff, iff_false]; omega
theorem j42 {i n : Nat} (h : i < n) : (i = nxs n) = False := by simp only [nxs, eq_iff_iff, iff_false]; omega
theorem j5j {i n : Nat} (h : i < n) : (nxs n = i) = False := by simp only [nxs, eq_iff_iff, iff_false]; omega
theorem j6a {n : Nat} : (n < nxs (nxs n)) = True := by simp only [nxs, eq_iff_iff, iff_true]; omega
theorem j6q {i n : Nat} (h : i < n) : (i < nxs (nxs n)) = True := by simp only [nxs, eq_iff_iff, iff_true]; omega
theorem j4d {n : Nat} : (n = nxs (nxs n)) = False := by simp only [nxs, eq_iff_iff, iff_false]; omega
theorem j4t {n : Nat} : (nxs (nxs n) = n) = False := by simp only [nxs, eq_iff_iff, iff_false]; omega
theorem j5a {i n : Nat} (h : i < n) : (i = nxs (nxs n)) = False := by simp only [nxs, eq_iff_iff, iff_false]; omega
theorem j5r {i n : Nat} (h : i < n) : (nxs (nxs n) = i) = False := by simp only [nxs, eq_iff_iff, iff_false]; omega
theorem j6b {n : Nat} : (n < nxs (nxs (nxs n))) = True := by simp only [nxs, eq_iff_iff, iff_true]; omega
theorem j6r {i n : Nat} (h : i < n) : (i < nxs (nxs (nxs n))) = True := by simp only [nxs, eq_iff_iff, iff_true]; omega
theorem j4e {n : Nat} : (n = nxs (nxs (nxs n))) = False := by simp only [nxs, eq_iff_iff, iff_false]; omega
theorem j4u {n : Nat} : (nxs (nxs (nxs n)) = n) = False := by simp only [nxs, eq_iff_iff, iff_false]; omega
theorem j5b {i n : Nat} (h : i < n) : (i = nxs (nxs (nxs n))) = False := by simp only [nxs, eq_iff_iff, iff_false]; omega
theorem j5s {i n : Nat} (h : i < n) : (nxs (nxs (nxs n)) = i) = False := by simp only [nxs, eq_iff_iff, iff_false]; omega
theorem j6c {n : Nat} : (n < nxs (nxs (nxs (nxs n)))) = True := by simp only [nxs, eq_iff_iff, iff_true]; omega
theorem j6s {i n : Nat} (h : i < n) : (i < nxs (nxs (nxs (nxs n)))) = True := by simp only [nxs, eq_iff_iff, iff_true]; omega
theorem j4f {n : Nat} : (n = nxs (nxs (nxs (nxs n)))) = False := by simp only [nxs, eq_iff_iff, iff_false]; omega
theorem j4v {n : Nat} : (nxs (nxs (nxs (nxs n))) = n) = False := by simp only [nxs, eq_iff_iff, iff_false]; omega
theorem j5c {i n : Nat} (h : i < n) : (i = nxs (nxs (nxs (nxs n)))) = False := by simp only [nxs, eq_iff_iff, iff_false]; omega
theorem j5t {i n : Nat} (h : i < n) : (nxs (nxs (nxs (nxs n))) = i) = False := by simp only [nxs, eq_iff_iff, iff_false]; omega
theorem j6d {n : Nat} : (n < nxs (nxs (nxs (nxs (nxs n))))) = True := by simp only [nxs, eq_iff_iff, iff_true]; omega
theorem j6t {i n : Nat} (h : i < n) : (i < nxs (nxs (nxs (nxs (nxs n))))) = True := by simp only [nxs, eq_iff_iff, iff_true]; omega
theorem j4g {n : Nat} : (n = nxs (nxs (nxs (nxs (nxs n))))) = False := by simp only [nxs, eq_iff_iff, iff_false]; omega
theorem j4w {n : Nat} : (nxs (nxs (nxs (nxs (nxs n)))) = n) = False := by simp only [nxs, eq_iff_iff, iff_false]; omega
theorem j5d {i n : Nat} (h : i < n) : (i = nxs (nxs (nxs (nxs (nxs n))))) = False := by simp only [nxs, eq_iff_iff, iff_false]; omega
theorem j5u {i n : Nat} (h : i < n) : (nxs (nxs (nxs (nxs (nxs n)))) = i) = False := by simp only [nxs, eq_iff_iff, iff_false]; omega
theorem j6e {n : Nat} : (n < nxs (nxs (nxs (nxs (nxs (nxs n)))))) = True := by simp only [nxs, eq_iff_iff, iff_true]; omega
theorem j6u {i n : Nat} (h : i < n) : (i < nxs (nxs (nxs (nxs (nxs (nxs n)))))) = True := by simp only [nxs, eq_iff_iff, iff_true]; omega
theorem j4h {n : Nat} : (n = nxs (nxs (nxs (nxs (nxs (nxs n)))))) = False := by simp only [nxs, eq_iff_iff, iff_false]; omega
theorem j4x {n : Nat} : (nxs (nxs (nxs (nxs (nxs (nxs n))))) = n) = False := by simp only [nxs, eq_iff_iff, iff_false]; omega
theorem j5e {i n : Nat} (h : i < n) : (i = nxs (nxs (nxs (nxs (nxs (nxs n)))))) = False := by simp only [nxs, eq_iff_iff, iff_false]; omega
theorem j5v {i n : Nat} (h : i < n) : (nxs (nxs (nxs (nxs (nxs (nxs n))))) = i) = False := by simp only [nxs, eq_iff_iff, iff_false]; omega
theorem j6f {n : Nat} : (n < nxs (nxs (nxs (nxs (nxs (nxs (nxs n))))))) = True := by simp only [nxs, eq_iff_iff, iff_true]; omega
theorem j6v {i n : Nat} (h : i < n) : (i < nxs (nxs (nxs (nxs (nxs (nxs (nxs n))))))) = True := by simp only [nxs, eq_iff_iff, iff_true]; omega
theorem j4i {n : Nat} : (n = nxs (nxs (nxs (nxs (nxs (nxs (nxs n))))))) = False := by simp only [nxs, eq_iff_iff, iff_false]; omega
theorem j4y {n : Nat} : (nxs (nxs (nxs (nxs (nxs (nxs (nxs n)))))) = n) = False := by simp only [nxs, eq_iff_iff, iff_false]; omega
theorem j5f {i n : Nat} (h : i < n) : (i = nxs (nxs (nxs (nxs (nxs (nxs (nxs n))))))) = False := by simp only [nxs, eq_iff_iff, iff_false]; omega
theorem j5w {i n : Nat} (h : i < n) : (nxs (nxs (nxs (nxs (nxs (nxs (nxs n)))))) = i) = False := by simp only [nxs, eq_iff_iff, iff_false]; omega
theorem j6g {n : Nat} : (n < nxs (nxs (nxs (nxs (nxs (nxs (nxs (nxs n)))))))) = True := by simp only [nxs, eq_iff_iff, iff_true]; omega
theorem j6w {i n : Nat} (h : i < n) : (i < nxs (nxs (nxs (nxs (nxs (nxs (nxs (nxs n)))))))) = True := by simp only [nxs, eq_iff_iff, iff_true]; omega
theorem j4j {n : Nat} : (n = nxs (nxs (nxs (nxs (nxs (nxs (nxs (nxs n)))))))) = False := by simp only [nxs, eq_iff_iff, iff_false]; omega
theorem j4z {n : Nat} : (nxs (nxs (nxs (nxs (nxs (nxs (nxs (nxs n))))))) = n) = False := by simp only [nxs, eq_iff_iff, iff_false]; omega
theorem j5g {i n : Nat} (h : i < n) : (i = nxs (nxs (nxs (nxs (nxs (nxs (nxs (nxs n)))))))) = False := by simp only [nxs, eq_iff_iff, iff_false]; omega
theorem j5x {i n : Nat} (h : i < n) : (nxs (nxs (nxs (nxs (nxs (nxs (nxs (nxs n))))))) = i) = False := by simp only [nxs, eq_iff_iff, iff_false]; omega
theorem j6h {n : Nat} : (n < nxs (nxs (nxs (nxs (nxs (nxs (nxs (nxs (nxs n))))))))) = True := by simp only [nxs, eq_iff_iff, iff_true]; omega
theorem j6x {i n : Nat} (h : i < n) : (i < nxs (nxs (nxs (nxs (nxs (nxs (nxs (nxs (nxs n))))))))) = True := by simp only [nxs, eq_iff_iff, iff_true]; omega
theorem j4k {n : Nat} : (n = nxs (nxs (nxs (nxs (nxs (nxs (nxs (nxs (nxs n))))))))) = False := by simp only [nxs, eq_iff_iff, iff_false]; omega
theorem j40 {n : Nat} : (nxs (nxs (nxs (nxs (nxs (nxs (nxs (nxs (nxs n)))))))) = n) = False := by simp only [nxs, eq_iff_iff, iff_false]; omega
theorem j5h {i n : Nat} (h : i < n) : (i = nxs (nxs (nxs (nxs (nxs (nxs (nxs (nxs (nxs n))))))))) = False := by simp only [nxs, eq_iff_iff, iff_false]; omega
theorem j5y {i n : Nat} (h : i < n) : (nxs (nxs (nxs (nxs (nxs (nxs (nxs (nxs (nxs n)))))))) = i) = False := by simp only [nxs, eq_iff_iff, iff_false]; omega
theorem j53 {n : Nat} : (n < nxs (nxs (nxs (nxs (nxs (nxs (nxs (nxs (nxs (nxs n)))))))))) = True := by simp only [nxs, eq_iff_iff, iff_true]; omega
theorem j6j {i n : Nat} (h : i < n) : (i < nxs (nxs (nxs (nxs (nxs (nxs (nxs (nxs (nxs (nxs n)))))))))) = True := by simp only [nxs, eq_iff_iff, iff_true]; omega
theorem j36 {n : Nat} : (n = nxs (nxs (nxs (nxs (nxs (nxs (nxs (nxs (nxs (nxs n)))))))))) = False := by simp only [nxs, eq_iff_iff, iff_false]; omega
theorem j4m {n : Nat} : (nxs (nxs (nxs (nxs (nxs (nxs (nxs (nxs (nxs (nxs n))))))))) = n) = False := by simp only [nxs, eq_iff_iff, iff_false]; omega
theorem j43 {i n : Nat} (h : i < n) : (i = nxs (nxs (nxs (nxs (nxs (nxs (nxs (nxs (nxs (nxs n)))))))))) = False := by simp only [nxs, eq_iff_iff, iff_false]; omega
theorem j5k {i n : Nat} (h : i < n) : (nxs (nxs (nxs (nxs (nxs (nxs (nxs (nxs (nxs (nxs n))))))))) = i) = False := by simp only [nxs, eq_iff_iff, iff_false]; omega
theorem j54 {n : Nat} : (n < nxs (nxs (nxs (nxs (nxs (nxs (nxs (nxs (nxs (nxs (nxs n))))))))))) = True := by simp only [nxs, eq_iff_iff, iff_true]; omega
theorem j6k {i n : Nat} (h : i < n) : (i < nxs (nxs (nxs (nxs (nxs (nxs (nxs (nxs (nxs (nxs (nxs n))))))))))) = True := by simp only [nxs, eq_iff_iff, iff_true]; omega
theorem j37 {n : Nat} : (n = nxs (nxs (nxs (nxs (nxs (nxs (nxs (nxs (nxs (nxs (nxs n))))))))))) = False := by simp only [nxs, eq_iff_iff, iff_false]; omega
theorem j4n {n : Nat} : (nxs (nxs (nxs (nxs (nxs (nxs (nxs (nxs (nxs (nxs (nxs n)))))))))) = n) = False := by simp only [nxs, eq_iff_iff, iff_false]; omega
theorem j44 {i n : Nat} (h : i < n) : (i = nxs (nxs (nxs (nxs (nxs (nxs (nxs (nxs (nxs (nxs (nxs n))))))))))) = False := by simp only [nxs, eq_iff_iff, iff_false]; omega
theorem j5l {i n : Nat} (h : i < n) : (nxs (nxs (nxs (nxs (nxs (nxs (nxs (nxs (nxs (nxs (nxs n)))))))))) = i) = False := by simp only [nxs, eq_iff_iff, iff_false]; omega
theorem j55 {n : Nat} : (n < nxs (nxs (nxs (nxs (nxs (nxs (nxs (nxs (nxs (nxs (nxs (nxs n)))))))))))) = True := by simp only [nxs, eq_iff_iff, iff_true]; omega
theorem j6l {i n : Nat} (h : i < n) : (i < nxs (nxs (nxs (nxs (nxs (nxs (nxs (nxs (nxs (nxs (nxs (nxs n)))))))))))) = True := by simp only [nxs, eq_iff_iff, iff_true]; omega
theorem j38 {n : Nat} : (n = nxs (nxs (nxs (nxs (nxs (nxs (nxs (nxs (nxs (nxs (nxs (nxs n)))))))))))) = False := by simp only [nxs, eq_iff_iff, iff_false]; omega
theorem j4o {n : Nat} : (nxs (nxs (nxs (nxs (nxs (nxs (nxs (nxs (nxs (nxs (nxs (nxs n))))))))))) = n) = False := by simp only [nxs, eq_iff_iff, iff_false]; omega
theorem j45 {i n : Nat} (h : i < n) : (i = nxs (nxs (nxs (nxs (nxs (nxs (nxs (nxs (nxs (nxs (nxs (nxs n)))))))))))) = False := by simp only [nxs, eq_iff_iff, iff_false]; omega
theorem j5m {i n : Nat} (h : i < n) : (nxs (nxs (nxs (nxs (nxs (nxs (nxs (nxs (nxs (nxs (nxs (nxs n))))))))))) = i) = False := by simp only [nxs, eq_iff_iff, iff_false]; omega
theorem j56 {n : Nat} : (n < nxs (nxs (nxs (nxs (nxs (nxs (nxs (nxs (nxs (nxs (nxs (nxs (nxs n))))))))))))) = True := by simp only [nxs, eq_iff_iff, iff_true]; omega
theorem j6m {i n : Nat} (h : i < n) : (i < nxs (nxs (nxs (nxs (nxs (nxs (nxs (nxs (nxs (nxs (nxs (nxs (nxs n))))))))))))) = True := by simp only [nxs, eq_iff_iff, iff_true]; omega
theorem j39 {n : Nat} : (n = nxs (nxs (nxs (nxs (nxs (nxs (nxs (nxs (nxs (nxs (nxs (nxs (nxs n))))))))))))) = False := by simp only [nxs, eq_iff_iff, iff_false]; omega
theorem j4p {n : Nat} : (nxs (nxs (nxs (nxs (nxs (nxs (nxs (nxs (nxs (nxs (nxs (nxs (nxs n)))))))))))) = n) = False := by simp only [nxs, eq_iff_iff, iff_false]; omega
theorem j46 {i n : Nat} (h : i < n) : (i = nxs (nxs (nxs (nxs (nxs (nxs (nxs (nxs (nxs (nxs (nxs (nxs (nxs n))))))))))))) = False := by simp only [nxs, eq_iff_iff, iff_false]; omega
theorem j5n {i n : Nat} (h : i < n) : (nxs (nxs (nxs (nxs (nxs (nxs (nxs (nxs (nxs (nxs (nxs (nxs (nxs n)))))))))))) = i) = False := by simp only [nxs, eq_iff_iff, iff_false]; omega
theorem j57 {n : Nat} : (n < nxs (nxs (nxs (nxs (nxs (nxs (nxs (nxs (nxs (nxs (nxs (nxs (nxs (nxs n)))))))))))))) = True := by simp only [nxs, eq_iff_iff, iff_true]; omega
theorem j6n {i n : Nat} (h : i < n) : (i < nxs (nxs (nxs (nxs (nxs (nxs (nxs (nxs (nxs (nxs (nxs (nxs (nxs (nxs n)))))))))))))) = True := by simp only [nxs, eq_iff_iff, iff_true]; omega
theorem j4a {n : Nat} : (n = nxs (nxs (nxs (nxs (nxs (nxs (nxs (nxs (nxs (nxs (nxs (nxs (nxs (nxs n)))))))))))))) = False := by simp only [nxs, eq_iff_iff, iff_false]; omega
theorem j4q {n : Nat} : (nxs (nxs (nxs (nxs (nxs (nxs (nxs (nxs (nxs (nxs (nxs (nxs (nxs (nxs n))))))))))))) = n) = False := by simp only [nxs, eq_iff_iff, iff_false]; omega
theorem j47 {i n : Nat} (h : i < n) : (i = nxs (nxs (nxs (nxs (nxs (nxs (nxs (nxs (nxs (nxs (nxs (nxs (nxs (nxs n)))))))))))))) = False := by simp only [nxs, eq_iff_iff, iff_false]; omega
theorem j5o {i n : Nat} (h : i < n) : (nxs (nxs (nxs (nxs (nxs (nxs (nxs (nxs (nxs (nxs (nxs (nxs (nxs (nxs n))))))))))))) = i) = False := by simp only [nxs, eq_iff_iff, iff_false]; omega
theorem j58 {n : Nat} : (n < nxs (nxs (nxs (nxs (nxs (nxs (nxs (nxs (nxs (nxs (nxs (nxs (nxs (nxs (nxs n))))))))))))))) = True := by simp only [nxs, eq_iff_iff, iff_true]; omega
theorem j6o {i n : Nat} (h : i < n) : (i < nxs (nxs (nxs (nxs (nxs (nxs (nxs (nxs (nxs (nxs (nxs (nxs (nxs (nxs (nxs n))))))))))))))) = True := by simp only [nxs, eq_iff_iff, iff_true]; omega
theorem j4b {n : Nat} : (n = nxs (nxs (nxs (nxs (nxs (nxs (nxs (nxs (nxs (nxs (nxs (nxs (nxs (nxs (nxs n))))))))))))))) = False := by simp only [nxs, eq_iff_iff, iff_false]; omega
theorem j4r {n : Nat} : (nxs (nxs (nxs (nxs (nxs (nxs (nxs (nxs (nxs (nxs (nxs (nxs (nxs (nxs (nxs n)))))))))))))) = n) = False := by simp only [nxs, eq_iff_iff, iff_false]; omega
theorem j48 {i n : Nat} (h : i < n) : (i = nxs (nxs (nxs (nxs (nxs (nxs (nxs (nxs (nxs (nxs (nxs (nxs (nxs (nxs (nxs n))))))))))))))) = False := by simp only [nxs, eq_iff_iff, iff_false]; omega
theorem j5p {i n : Nat} (h : i < n) : (nxs (nxs (nxs (nxs (nxs (nxs (nxs (nxs (nxs (nxs (nxs (nxs (nxs (nxs (nxs n)))))))))))))) = i) = False := by simp only [nxs, eq_iff_iff, iff_false]; omega
theorem j59 {n : Nat} : (n < nxs (nxs (nxs (nxs (nxs (nxs (nxs (nxs (nxs (nxs (nxs (nxs (nxs (nxs (nxs (nxs n)))))))))))))))) = True := by simp only [nxs, eq_iff_iff, iff_true]; omega
theorem j6p {i n : Nat} (h : i < n) : (i < nxs (nxs (nxs (nxs (nxs (nxs (nxs (nxs (nxs (nxs (nxs (nxs (nxs (nxs (nxs (nxs n)))))))))))))))) = True := by simp only [nxs, eq_iff_iff, iff_true]; omega
theorem j4c {n : Nat} : (n = nxs (nxs (nxs (nxs (nxs (nxs (nxs (nxs (nxs (nxs (nxs (nxs (nxs (nxs (nxs (nxs n)))))))))))))))) = False := by simp only [nxs, eq_iff_iff, iff_false]; omega
theorem j4s {n : Nat} : (nxs (nxs (nxs (nxs (nxs (nxs (nxs (nxs (nxs (nxs (nxs (nxs (nxs (nxs (nxs (nxs n))))))))))))))) = n) = False := by simp only [nxs, eq_iff_iff, iff_false]; omega
theorem j49 {i n : Nat} (h : i < n) : (i = nxs (nxs (nxs (nxs (nxs (nxs (nxs (nxs (nxs (nxs (nxs (nxs (nxs (nxs (nxs (nxs n)))))))))))))))) = False := by simp only [nxs, eq_iff_iff, iff_false]; omega
theorem j5q {i n : Nat} (h : i < n) : (nxs (nxs (nxs (nxs (nxs (nxs (nxs (nxs (nxs (nxs (nxs (nxs (nxs (nxs (nxs (nxs n))))))))))))))) = i) = False := by simp only [nxs, eq_iff_iff, iff_false]; omega
theorem j41 {i : Nat} {h : Heap} (hl : i < h.nx) : (i = h.nx) = False := by simp only [eq_iff_iff, iff_false]; omega
theorem j5i {i : Nat} {h : Heap} (hl : i < h.nx) : (h.nx = i) = False := by simp only [eq_iff_iff, iff_false]; omega
attribute [go_sem] nxa nxb j52 j6i j35 j4l j42 j5j j6a j6q j4d j4t j5a j5r j6b j6r j4e j4u j5b j5s j6c j6s j4f j4v j5c j5t j6d j6t j4g j4w j5d j5u j6e j6u j4h j4x j5e j5v j6f j6v j4i j4y j5f j5w j6g j6w j4j j4z j5g j5x j6h j6x j4k j40 j5h j5y j53 j6j j36 j4m j43 j5k j54 j6k j37 j4n j44 j5l j55 j6l j38 j4o j45 j5m j56 j6m j39 j4p j46 j5n j57 j6n j4a j4q j47 j5o j58 j6o j4b j4r j48 j5p j59 j6p j4c j4s j49 j5q j41 j5i
end Go.Nw
