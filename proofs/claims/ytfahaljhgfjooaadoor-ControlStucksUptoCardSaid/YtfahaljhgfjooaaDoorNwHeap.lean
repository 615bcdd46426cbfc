/- Own objects: rules for what makes, reads, writes and hands them over. -/
import Derived.Test.YtfahaljhgfjooaaDoorNwModel
set_option linter.all false
namespace Go.Nw
theorem d22 {h : Heap} {o : Ob} {i : Nat} (hl : i < h.nx) : (h.new o).ob i = h.ob i := by
 simp only [Heap.new]; rw [if_neg (by omega)]
theorem d21 {h : Heap} {o : Ob} {i : Nat} (hl : i = h.nx) : (h.new o).ob i = some o := by
 simp only [Heap.new]; rw [if_pos hl]
theorem g1l {h : Heap} {o : Option Ob} {i j : Nat} (hl : ¬ i = j) : (h.upd j o).ob i = h.ob i := by
 simp only [Heap.upd]; rw [if_neg hl]
theorem l4b {h : Heap} {o : Option Ob} {i j : Nat} (hl : i = j) : (h.upd j o).ob i = o := by
 simp only [Heap.upd]; rw [if_pos hl]
theorem d6k {p : Prop} : @b4e True ⟨p⟩ = p := by simp [b4e]
theorem b47 {α : Type} {f : α -> List AV} {l : List α} {i : Int} {x : α} {sz : Nat} {k : Nat -> List (List AV) -> List AV -> Prop} (hx : get l i = some x) :
  @c5y (some (sz, List.map f l)) i.toNat ⟨k⟩ = k sz (List.map f l) (f x) := by
 show b7j _ _ _ = _
 simp only [g0t, List.getElem?_map, b4d hx, Option.map_some, Option.some.injEq]
 apply propext; constructor
 ·rintro ⟨_, rfl, hk⟩; exact hk
 ·exact fun hk => ⟨_, rfl, hk⟩
theorem l3f {l : List Int} {n : Nat} {v : Int} : (List.map eI l).set n [I v] = List.map eI (l.set n v) := by rw [List.map_set]; rfl
theorem l3e {l : List Bool} {n : Nat} {v : Bool} : (List.map eB l).set n [B v] = List.map eB (l.set n v) := by rw [List.map_set]; rfl
def mks {α : Type} (b : Nat) (n : Int) (z : α) : Option (List α) := if 0 <= n /\ n * b <= 2 ^ 47 /\ n < 2 ^ 63 then some (List.replicate n.toNat z) else none
theorem d2y {α : Type} {b : Nat} {n : Int} {z : α} {l : List α} (h : mks b n z = some l) : 0 <= n /\ n * b <= 2 ^ 47 /\ n < 2 ^ 63 /\ l = List.replicate n.toNat z := by
 unfold mks at h; split at h
 ·rename_i hc; cases h; exact ⟨hc.1, hc.2.1, hc.2.2, rfl⟩
 ·cases h
theorem d9q {α : Type} {b : Nat} {n : Int} {z : α} (h0 : 0 <= n) (h1 : n * b <= 2 ^ 47) (h2 : n < 2 ^ 63) : mks b n z = some (List.replicate n.toNat z) := by
 unfold mks; rw [if_pos ⟨h0, h1, h2⟩]
def ap {α : Type} (b : Nat) (l m : List α) : Option (List α) := if (l.length + m.length) * b <= 2 ^ 40 then some (l ++ m) else none
theorem b71 {α : Type} {b : Nat} {l m r : List α} (h : ap b l m = some r) : (l.length + m.length) * b <= 2 ^ 40 /\ r = l ++ m := by
 unfold ap at h; split at h
 ·rename_i hc; cases h; exact ⟨hc, rfl⟩
 ·cases h
theorem b72 {α : Type} {b : Nat} {l m : List α} (h : (l.length + m.length) * b <= 2 ^ 40) : ap b l m = some (l ++ m) := by
 unfold ap; rw [if_pos h]
def c5u (sz : Nat) (zs : List Value) (b : Nat) (l c : AV) (h : Heap) [k : K2] : Prop := ∃ r h', eff (.mksl sz zs b (.t 0) (.t 1)) (evT fun i => if i = 0 then l else c) h = some (r, h') /\ k.k r h'
def b6x (sz b : Nat) (s x : AV) (h : Heap) [k : K2] : Prop := ∃ r h', eff (.app sz b (.t 0) (.t 1)) (evT fun i => if i = 0 then s else x) h = some (r, h') /\ k.k r h'
def d0t (sz : Nat) (vs : List AV) (h : Heap) [k : K2] : Prop := (vs.all fun x => b2a x && (cellsOf x).length == sz) = true /\ k.k (.rs h.nx 0 vs.length) (h.new (sz, vs.map cellsOf))
section
variable {O : Orac} {d : Option Nat} {g : Nat} {b0 : Bool} {r : List XO} {K : Slots -> Heap -> Prop} {t : Slots} {h : Heap} {k : AV -> Heap -> Prop}
theorem j2h {sz zs b l c} : b0d O (⟨d, none, .mksl sz zs b l c⟩ :: r) K t h = @iop O (.mksl sz zs b l c) t h ⟨fun v h' => b0d O r K (b0h t d v) h'⟩ := b2j rfl
theorem j3j {sz zs b l c} : b0d O (⟨d, some (g, b0), .mksl sz zs b l c⟩ :: r) K t h = @b2e (t g) b0 ⟨@iop O (.mksl sz zs b l c) (upd t g (B b0)) h ⟨fun v h' => b0d O r K (b0h (upd t g (B b0)) d v) h'⟩⟩ ⟨b0d O r K (b0h (upd t g (B (!b0))) d U) h⟩ ⟨b0d O r K (b0h t d U) h⟩ := b2h rfl
theorem j1v {sz b s x} : b0d O (⟨d, none, .app sz b s x⟩ :: r) K t h = @iop O (.app sz b s x) t h ⟨fun v h' => b0d O r K (b0h t d v) h'⟩ := b2j rfl
theorem j2x {sz b s x} : b0d O (⟨d, some (g, b0), .app sz b s x⟩ :: r) K t h = @b2e (t g) b0 ⟨@iop O (.app sz b s x) (upd t g (B b0)) h ⟨fun v h' => b0d O r K (b0h (upd t g (B b0)) d v) h'⟩⟩ ⟨b0d O r K (b0h (upd t g (B (!b0))) d U) h⟩ ⟨b0d O r K (b0h t d U) h⟩ := b2h rfl
theorem j1z {sz vs} : b0d O (⟨d, none, .bsl sz vs⟩ :: r) K t h = @iop O (.bsl sz vs) t h ⟨fun v h' => b0d O r K (b0h t d v) h'⟩ := b2j rfl
theorem j21 {sz vs} : b0d O (⟨d, some (g, b0), .bsl sz vs⟩ :: r) K t h = @b2e (t g) b0 ⟨@iop O (.bsl sz vs) (upd t g (B b0)) h ⟨fun v h' => b0d O r K (b0h (upd t g (B b0)) d v) h'⟩⟩ ⟨b0d O r K (b0h (upd t g (B (!b0))) d U) h⟩ ⟨b0d O r K (b0h t d U) h⟩ := b2h rfl
theorem j4k {sz zs b l c} : @iop O (.mksl sz zs b l c) t h ⟨k⟩ = @c5u sz zs b (evT t l) (evT t c) h ⟨k⟩ := by
 simp only [iop, op1, c5u, eff, evT, if_true, Nat.one_ne_zero, if_false]
theorem j3y {sz b s x} : @iop O (.app sz b s x) t h ⟨k⟩ = @b6x sz b (evT t s) (evT t x) h ⟨k⟩ := by
 simp only [iop, op1, b6x, eff, evT, if_true, Nat.one_ne_zero, if_false]
theorem j32 {sz vs} : @iop O (.bsl sz vs) t h ⟨k⟩ = @d0t sz (vs.map (evT t)) h ⟨k⟩ := by
 simp only [iop, op1, d0t, eff, List.length_map]
 apply propext; constructor
 ·rintro ⟨r, h', he, hk⟩
  split at he
  ·rename_i hc; cases he; exact ⟨hc, hk⟩
  ·cases he
 ·rintro ⟨hc, hk⟩
  exact ⟨_, _, by rw [if_pos hc], hk⟩
theorem d7l {sz vs} : @d0t sz vs h ⟨k⟩ = @b4e ((vs.all fun x => b2a x && (cellsOf x).length == sz) = true) ⟨k (.rs h.nx 0 vs.length) (h.new (sz, vs.map cellsOf))⟩ := rfl
theorem d8i {α : Type} {f : α -> List AV} {z : α} {sz : Nat} {zs : List Value} {b : Nat} {n : Int} {l : List α} (hz : zs.map .v = f z) (hm : mks b n z = some l)
  (hk : k (.rs h.nx 0 (List.length l)) (h.new (sz, List.map f l))) : @c5u sz zs b (I n) (I n) h ⟨k⟩ := by
 obtain ⟨h0, h1, h2, rfl⟩ := d2y hm
 rw [List.length_replicate, List.map_replicate, <- hz] at hk
 refine ⟨_, _, ?_, hk⟩
 simp only [eff, evT, if_true, Nat.one_ne_zero, if_false]
 rw [if_pos ⟨trivial, h0, h1, h2⟩]
def b5e (h : Heap) (v : AV) (o : Ob) : Heap := (match v with | .rs id _ _ => h.upd id none | _ => h).new o
theorem c4u {a : Option Addr} {b c : Nat} {o : Ob} : b5e h (.v (.slice a b c)) o = h.new o := rfl
theorem c1f {id lo len : Nat} {o : Ob} : b5e h (.rs id lo len) o = (h.upd id none).new o := rfl
def b1o (h : Heap) (v : AV) (sz : Nat) (rows : List (List AV)) : Prop := (v = .v (.slice none 0 0) /\ rows = []) \/ ∃ id, v = .rs id 0 rows.length /\ h.ob id = some (sz, rows) /\ id < h.nx
def c9p (h : Heap) (v : AV) (sz : Nat) (rows : List (List AV)) : Prop := v = .fs sz rows \/ ∃ id, v = .rs id 0 rows.length /\ h.ob id = some (sz, rows)
def b0s (v : AV) (i : Nat) : Prop := match v with | .rs id _ _ => ¬ id = i | _ => True
theorem b22 {α : Type} {f : α -> List AV} {sz b : Nat} {s x : AV} {l m r : List α} (hs : b1o h s sz (List.map f l)) (hx : c9p h x sz (List.map f m)) (hd : ∀ i, ¬ b0s s i -> b0s x i) (hn : s = .v (.slice none 0 0) -> ¬ m = [])
  (ha : ap b l m = some r) (hk : k (.rs h.nx 0 (List.length r)) (b5e h s (sz, List.map f r))) : @b6x sz b s x h ⟨k⟩ := by
 obtain ⟨hb, rfl⟩ := b71 ha
 rw [List.length_append, List.map_append] at hk
 refine ⟨_, _, ?_, hk⟩
 simp only [eff, evT, if_true, Nat.one_ne_zero, if_false]
 rcases hs with ⟨rfl, hl⟩ | ⟨id, rfl, ho, hlt⟩
 ·have hl' : l = [] := by simpa using hl
  subst hl'
  have hm : ¬ m.length = 0 := fun e => hn rfl (List.length_eq_zero_iff.1 e)
  rcases hx with rfl | ⟨id2, rfl, ho2⟩
  ·simp only [List.length_map, hm, if_false, List.map_nil, List.nil_append, List.length_nil, Nat.zero_add, c4u]
   rw [if_pos ⟨trivial, by simpa using hb⟩]
  ·simp only [ho2, Option.bind_some, List.length_map, hm, if_false, List.map_nil, List.nil_append, List.length_nil, Nat.zero_add, c4u]
   rw [if_pos ⟨trivial, by simp, by simpa using hb⟩]
   simp [List.take_of_length_le]
 ·rcases hx with rfl | ⟨id2, rfl, ho2⟩
  ·simp only [ho, Option.bind_some, List.length_map, c1f]
   rw [if_pos ⟨trivial, trivial, by simp, hb⟩]
   simp [List.take_of_length_le]
  ·have hne : id ≠ id2 := fun e => hd id (by simp [b0s]) e.symm
   simp only [ho, ho2, Option.bind_some, List.length_map, c1f]
   rw [if_pos ⟨trivial, trivial, hne, by simp, by simp, hb⟩]
   simp [List.take_of_length_le]
theorem l1c {sz : Nat} : b1o h (.v (.slice none 0 0)) sz [] := .inl ⟨rfl, rfl⟩
theorem b98 {α : Type} {f : α -> List AV} {sz : Nat} : b1o h (.v (.slice none 0 0)) sz (List.map f []) := .inl ⟨rfl, rfl⟩
theorem b2p {id n sz : Nat} {rows : List (List AV)} (ho : h.ob id = some (sz, rows)) (hl : n = rows.length) (hn : id < h.nx) : b1o h (.rs id 0 n) sz rows := .inr ⟨id, by rw [hl], ho, hn⟩
theorem b4j {id n sz : Nat} {rows : List (List AV)} (ho : h.ob id = some (sz, rows)) (hl : n = rows.length) : c9p h (.rs id 0 n) sz rows := .inr ⟨id, by rw [hl], ho⟩
theorem b7b {sz : Nat} {rows : List (List AV)} : c9p h (.fs sz rows) sz rows := .inl rfl
theorem b4h {s : AV} {id lo n : Nat} (hs : b0s s id) : ∀ i, ¬ b0s s i -> b0s (.rs id lo n) i := fun i hi e => hi (e ▸ hs)
theorem b69 {s : AV} {sz : Nat} {rows : List (List AV)} : ∀ i, ¬ b0s s i -> b0s (.fs sz rows) i := fun _ _ => trivial
theorem b1v {a : Value} {i : Nat} : b0s (.v a) i := trivial
theorem b1x {id lo n i : Nat} (hl : ¬ id = i) : b0s (.rs id lo n) i := hl
theorem b1u {v : AV} {sz : Nat} {rows : List (List AV)} (hv : b1o h v sz rows) {i : Nat} (hi : h.nx <= i) : b0s v i := by
 rcases hv with ⟨rfl, _⟩ | ⟨id, rfl, _, hlt⟩
 ·trivial
 ·exact fun e => by omega
theorem b6n {es : List (List AV)} {i j : Nat} {c : AV} (h : at2 es i j = some c) : ∃ e, es[i]? = some e /\ e[j]? = some c := by
 unfold at2 at h
 cases he : es[i]? with
 | none => simp [he] at h
 | some e => exact ⟨e, rfl, by rw [he] at h; exact h⟩
theorem b8f {α : Type} {f : α -> List AV} {v : AV} {sz : Nat} {l : List α} (hv : b1o h v sz (List.map f l)) (hf : ∀ a, ∀ c ∈ f a, Frz c) (hl : ∀ a, (f a).length = sz) : Fz h v (.fs sz (List.map f l)) := by
 rcases hv with ⟨rfl, hr⟩ | ⟨id, rfl, ho, _⟩
 ·rw [hr]; exact .nil sz
 ·refine .rs id 0 _ sz _ _ ho (by simp) rfl (fun d hd => ?_) (fun i j c d h1 h2 => ?_)
  ·obtain ⟨a, _, rfl⟩ := List.mem_map.1 hd; exact hl a
  ·rw [Nat.zero_add] at h1
   rw [h1] at h2; cases h2
   obtain ⟨e, he, hc⟩ := b6n h1
   obtain ⟨a, _, rfl⟩ := List.mem_map.1 (List.mem_of_getElem? he)
   exact .refl _ (hf a _ (List.mem_of_getElem? hc))
theorem b3e {α : Type} {f : α -> List AV} {id n sz : Nat} {l : List α} (ho : h.ob id = some (sz, List.map f l)) (hn : n = List.length l) (hf : ∀ a, ∀ c ∈ f a, Frz c) (hl : ∀ a, (f a).length = sz) : Fz h (.rs id 0 n) (.fs sz (List.map f l)) := by
 subst hn
 refine .rs id 0 _ sz _ _ ho (by simp) (by simp) (fun d hd => ?_) (fun i j c d h1 h2 => ?_)
 ·obtain ⟨a, _, rfl⟩ := List.mem_map.1 hd; exact hl a
 ·rw [Nat.zero_add] at h1
  rw [h1] at h2; cases h2
  obtain ⟨e, he, hc⟩ := b6n h1
  obtain ⟨a, _, rfl⟩ := List.mem_map.1 (List.mem_of_getElem? he)
  exact .refl _ (hf a _ (List.mem_of_getElem? hc))
theorem b6w {xs ys : List AV} (hz : FzL h xs ys) : xs.length = ys.length /\ ∀ (i : Nat) c d, xs[i]? = some c -> ys[i]? = some d -> Fz h c d := by
 induction hz with
 | nil => exact ⟨rfl, fun i c d hc => by simp at hc⟩
 | cons a _ ih =>
  refine ⟨by simp [ih.1], fun i c d hc hd => ?_⟩
  cases i with
  | zero => simp at hc hd; subst hc; subst hd; exact a
  | succ i => simp at hc hd; exact ih.2 i c d hc hd
theorem d59 {xs ys : List AV} (hz : FzL h xs ys) : Fz h (.tup xs) (.tup ys) := .tup _ _ (b6w hz).1 (b6w hz).2
theorem d57 {xs ys : List AV} (hz : FzL h xs ys) : Fz h (.agg xs) (.agg ys) := .agg _ _ (b6w hz).1 (b6w hz).2
theorem d58 {id sz : Nat} {xs ys : List AV} (ho : h.ob id = some (sz, [xs])) (hz : FzL h xs ys) : Fz h (.rp id 0 0) (.fp ys 0) := .rp id 0 0 sz _ _ _ ho rfl (b6w hz).1 (b6w hz).2
theorem b8b {n : Nat} {v r : AV} (ht : t n = v) (hz : Fz h v r) : b3w [.t n] r [] ⟨t, h⟩ := by
 subst ht; exact .inl ⟨rfl, [t n], rfl, hz⟩
theorem d48 {n m : Nat} {v r u s : AV} (ht : t n = v) (hu : t m = u) (hz : Fz h v r) (hz' : Fz h u s) : b3w [.t n, .t m] (.tup [r, s]) [] ⟨t, h⟩ := by
 subst ht; subst hu; exact .inl ⟨rfl, [t n, t m], rfl, d59 (.cons hz (.cons hz' .nil))⟩
theorem b9l {n sz id m : Nat} {cs : List AV} {r : AV} (ht : t n = .rp id 0 0) (ho : h.ob id = some (m, [cs])) (hl : cs.length = sz) (hz : Fz h (.agg cs) r) : b3w [.cell n true sz] r [] ⟨t, h⟩ := by
 refine .inl ⟨rfl, [.agg cs], ?_, hz⟩
 subst hl
 simp [b3t, eff, St.ev, ht, ho]
theorem c1q {b : XCode} {Q : XExit -> Slots -> Heap -> Prop} {t' : Slots} {h' : Heap} (hg : b6k ⟨t, h⟩ ⟨t', h'⟩) (hw : cw O b Q t' h') : cw O (.seq .ghost b) Q t h := ⟨⟨t', h'⟩, hg, hw⟩
def b9r (h : Heap) (v : AV) : Heap := match v with | .rs id _ _ => h.upd id none | .rp id _ _ => h.upd id none | _ => h
theorem d4k {id : Nat} : h.upd id none = h.but (· == id) := by
 simp only [Heap.upd, Heap.but, Heap.mk.injEq, and_true]
 funext j; by_cases e : j = id <;> simp [e]
theorem g4p : h = h.but fun _ => false := by simp [Heap.but]
theorem c5h {F : Nat -> Bool} {s : Nat} {y : AV} (hc : b7o (h.only F) (t s) y) : b6k ⟨t, h⟩ ⟨upd t s y, h.but F⟩ := by
 refine ⟨F, rfl, rfl, fun id sz es' ho => ?_, fun j => ?_⟩
 ·have ho' : (if F id then none else h.ob id) = some (sz, es') := ho
  split at ho'
  ·cases ho'
  ·rename_i hf
   exact ⟨by simpa using hf, es', ho', .inl rfl, fun i j d hd => ⟨d, hd, .inl rfl⟩⟩
 ·show b7o _ (t j) (upd t s y j)
  by_cases e : j = s
  ·subst e; rw [g1m]; exact hc
  ·rw [g1k e]; exact .inl rfl
theorem g7g {α : Type} {f : α -> List AV} {b : XCode} {Q : XExit -> Slots -> Heap -> Prop} {s : Nat} {v : AV} {sz : Nat} {l : List α} (hs : t s = v) (hv : b1o h v sz (List.map f l)) (hf : ∀ a, ∀ c ∈ f a, Frz c) (hl : ∀ a, (f a).length = sz)
  (hw : cw O b Q (upd t s (.fs sz (List.map f l))) (b9r h v)) : cw O (.seq .ghost b) Q t h := by
 subst hs
 have hfr : Frz (.fs sz (List.map f l)) := .fs _ _ fun e he c hc => by obtain ⟨a, _, rfl⟩ := List.mem_map.1 he; exact hf a c hc
 rcases hv with ⟨hv, hr⟩ | ⟨id, hv, ho, hlt⟩
 ·refine c1q (h' := b9r h (t s)) ?_ hw
  rw [hv]
  have := c5h (t := t) (h := h) (F := fun _ => false) (s := s) (y := .fs sz (List.map f l)) (.inr ⟨by rw [hv, hr]; exact .nil sz, hfr⟩)
  rw [<- g4p] at this
  exact this
 ·refine c1q (h' := b9r h (t s)) ?_ hw
  rw [hv]
  have := c5h (t := t) (h := h) (F := (· == id)) (s := s) (y := .fs sz (List.map f l)) (.inr ⟨by rw [hv]; exact b3e (by simp [Heap.only, ho]) (by simp) hf hl, hfr⟩)
  rw [<- d4k] at this
  exact this
theorem g89 {a : Value} : b9r h (.v a) = h := rfl
theorem d53 {id lo n : Nat} : b9r h (.rs id lo n) = h.upd id none := rfl
theorem c99 {b : XCode} {Q : XExit -> Slots -> Heap -> Prop} {s id n : Nat} {cs : List AV} (hs : t s = .rp id 0 0) (ho : h.ob id = some (n, [cs])) (hf : ∀ c ∈ cs, Frz c)
  (hw : cw O b Q (upd t s (.fp cs 0)) (h.upd id none)) : cw O (.seq .ghost b) Q t h := by
 refine c1q (h' := h.upd id none) ?_ hw
 rw [d4k]
 refine c5h (.inr ⟨?_, .fp _ _ hf⟩)
 rw [hs]
 exact .rp id 0 0 n [cs] cs cs (by simp [Heap.only, ho]) rfl rfl (fun i c d h1 h2 => by rw [h1] at h2; cases h2; exact .refl _ (hf _ (List.mem_of_getElem? h1)))
theorem g7h {α : Type} {f : α -> List AV} {b : XCode} {Q : XExit -> Slots -> Heap -> Prop} {id sz : Nat} {l : List α} {a : α} {raw : List AV} (F : Nat -> Bool) (ho : h.ob id = some (sz, List.map f l ++ [raw])) (hi : F id = false)
  (hz : FzL (h.only F) raw (f a)) (hf : ∀ a, ∀ c ∈ f a, Frz c) (hl : ∀ a, (f a).length = sz) (hw : cw O b Q t ((h.but F).upd id (some (sz, List.map f (l ++ [a]))))) : cw O (.seq .ghost b) Q t h := by
 refine c1q (t' := t) (h' := (h.but F).upd id (some (sz, List.map f (l ++ [a])))) ⟨F, rfl, rfl, fun j n es' hj => ?_, fun _ => .inl rfl⟩ hw
 have hj' : (if j = id then some (sz, List.map f (l ++ [a])) else (if F j then none else h.ob j)) = some (n, es') := hj
 split at hj'
 ·rename_i e; subst e
  simp only [Option.some.injEq, Prod.mk.injEq] at hj'
  obtain ⟨rfl, rfl⟩ := hj'
  refine ⟨hi, _, ho, .inr ⟨by simp, fun e he => ?_⟩, fun i k d hd => ?_⟩
  ·obtain ⟨x, _, rfl⟩ := List.mem_map.1 he; exact hl x
  ·rw [List.map_append] at hd
   by_cases hik : i < l.length
   ·refine ⟨d, ?_, .inl rfl⟩
    simp only [at2] at hd ⊢
    rw [List.getElem?_append_left (by simpa using hik)] at hd ⊢
    exact hd
   ·by_cases he : i = l.length
    ·subst he
     have h1 : at2 (List.map f l ++ List.map f [a]) l.length k = (f a)[k]? := by simp [at2]
     have h2 : at2 (List.map f l ++ [raw]) l.length k = raw[k]? := by simp [at2]
     rw [h1] at hd; rw [h2]
     have hlen := (b6w hz).1
     obtain ⟨hk, _⟩ := List.getElem?_eq_some_iff.1 hd
     have hk' : k < raw.length := by rw [hlen]; exact hk
     exact ⟨raw[k], List.getElem?_eq_getElem hk', .inr ⟨(b6w hz).2 k _ _ (List.getElem?_eq_getElem hk') hd, hf a _ (List.mem_of_getElem? hd)⟩⟩
    ·exfalso
     have : at2 (List.map f l ++ List.map f [a]) i k = none := by
      have : (List.map f l ++ List.map f [a])[i]? = none := by rw [List.getElem?_eq_none_iff]; simp; omega
      unfold at2; rw [this]; rfl
     rw [this] at hd; cases hd
 ·split at hj'
  ·cases hj'
  ·rename_i _ hf'
   exact ⟨by simpa using hf', es', hj', .inl rfl, fun i k d hd => ⟨d, hd, .inl rfl⟩⟩
theorem d6l {α : Type} {f : α -> List AV} {sz b id2 : Nat} {s : AV} {l : List α} {r : List α} {a : α} {raw : List AV} (hs : b1o h s sz (List.map f l)) (hx : h.ob id2 = some (sz, [raw])) (hd : b0s s id2)
  (ha : ap b l [a] = some r) (hk : k (.rs h.nx 0 (List.length r)) (b5e h s (sz, List.map f l ++ [raw]))) : @b6x sz b s (.rs id2 0 1) h ⟨k⟩ := by
 obtain ⟨hb, rfl⟩ := b71 ha
 rw [List.length_append] at hk
 refine ⟨_, _, ?_, hk⟩
 simp only [eff, evT, if_true, Nat.one_ne_zero, if_false]
 have hb' : (l.length + 1) * b <= 2 ^ 40 := by simpa using hb
 rcases hs with ⟨rfl, hl⟩ | ⟨id, rfl, ho, hlt⟩
 ·have hl' : l = [] := by simpa using hl
  subst hl'
  simp only [hx, Option.bind_some, List.map_nil, List.nil_append, List.length_nil, List.length_cons, Nat.zero_add, c4u, Nat.one_ne_zero, if_false]
  rw [if_pos ⟨trivial, by simp, by simpa using hb'⟩]
  simp
 ·have hne : id ≠ id2 := hd
  simp only [ho, hx, Option.bind_some, List.length_map, c1f]
  rw [if_pos ⟨trivial, trivial, hne, by simp, by simp, hb'⟩]
  simp [List.take_of_length_le]
end
theorem g3u {h : Heap} {v : AV} {o : Ob} : (b5e h v o).nx = nxs h.nx := by cases v <;> rfl
theorem g3v {h : Heap} {v : AV} {o : Ob} {i : Nat} (hi : b0s v i) (hl : i < h.nx) : (b5e h v o).ob i = h.ob i := by
 unfold b5e
 split
 ·rw [d22 (by exact hl), g1l]; exact fun e => hi e.symm
 ·exact d22 hl
theorem g3t {h : Heap} {v : AV} {o : Ob} {i : Nat} (hl : i = h.nx) : (b5e h v o).ob i = some o := by
 unfold b5e
 split
 ·exact d21 hl
 ·exact d21 hl
theorem g9a {h : Heap} {v : AV} : (b9r h v).nx = h.nx := by cases v <;> rfl
attribute [go_sem ↓] j2h j3j j1v j2x j1z j21 j4k j3y j32 d7l d6k
attribute [go_sem] d7l d6k c4u c1f g3u g89 d53 g9a Nat.zero_add l3f l3e
end Go.Nw
namespace Go.Nw
theorem g7m {id lo n : Nat} {w : AV} (hw : b0s w id) : ∀ j, ¬ b0s (.rs id lo n) j -> b0s w j := fun j hj => by
 have e : id = j := by simpa [b0s] using hj
 exact e ▸ hw
theorem b2z {O l b Q t h} (post : Slots -> Heap -> Prop) (h1 : ∀ K : Slots -> Heap -> Prop, (∀ t h, post t h -> K t h) -> b0d O l K t h) (h2 : ∀ t h, post t h -> cw O b Q t h) : cw O (.seq (.reg l) b) Q t h :=
 g7j post (h1 post fun _ _ h => h) h2
theorem b9j {O l Q t h} (post : Slots -> Heap -> Prop) (h1 : ∀ K : Slots -> Heap -> Prop, (∀ t h, post t h -> K t h) -> b0d O l K t h) (h2 : ∀ t h, post t h -> Q .normal t h) : cw O (.reg l) Q t h :=
 g7k post (h1 post fun _ _ h => h) h2
theorem l1a {α : Type} {f : α -> List AV} {h : Heap} {v : AV} {sz : Nat} {l : List α} {i : Int} {x : α} (hv : b1o h v sz (List.map f l)) (hx : get l i = some x) : ∃ id, v = .rs id 0 (List.length l) /\ h.ob id = some (sz, List.map f l) /\ id < h.nx := by
 rcases hv with ⟨_, hr⟩ | ⟨id, h1, h2, h3⟩
 ·have : l = [] := by simpa using hr
  subst this; have := b07 hx; have := b06 hx; simp at *; omega
 ·exact ⟨id, by simpa using h1, h2, h3⟩
theorem b8k (x : Int) : (eI x).length = 1 := rfl
end Go.Nw
namespace Go.Nw
theorem b24 {h h' : Heap} {v : AV} {sz : Nat} {rows : List (List AV)} (hv : b1o h v sz rows) (hk : ∀ j, ¬ b0s v j -> j < h.nx -> h'.ob j = h.ob j) (hn : h.nx <= h'.nx) : b1o h' v sz rows := by
 rcases hv with ⟨rfl, hr⟩ | ⟨id, rfl, ho, hlt⟩
 ·exact .inl ⟨rfl, hr⟩
 ·exact .inr ⟨id, rfl, by rw [hk id (by simp [b0s]) hlt]; exact ho, by omega⟩
end Go.Nw
namespace Go.Nw
theorem b1z {a b : Nat} (h : ¬ a = b) : ¬ b = a := fun e => h e.symm
theorem b0q {α : Type} {c : Bool} {a b : α} (h : c = true) : (if c then a else b) = a := if_pos h
theorem b0p {α : Type} {c : Bool} {a b : α} (h : c = false) : (if c then a else b) = b := if_neg (by simp [h])
attribute [go_sem] d22 d21 g1l l4b g3v g3t List.length_map Bool.true_or Bool.or_true Bool.false_or Bool.or_false Bool.true_and Bool.and_true Bool.false_and Bool.and_false Bool.false_eq_true List.length_set
end Go.Nw
namespace Go.Nw
theorem b4i {v : AV} {i j : Nat} (hj : ¬ b0s v j) (hi : b0s v i) : ¬ j = i := fun e => hj (e ▸ hi)
end Go.Nw
namespace Go.Nw
end Go.Nw
namespace Go.Nw
def mn (a b : Int) : Int := if b < a then b else a
def mx (a b : Int) : Int := if b > a then b else a
theorem d9r (a b : Int) : mn a b = min a b := by unfold mn; split <;> omega
theorem d90 (a b : Int) : mx a b = max a b := by unfold mx; split <;> omega
def b9z (xs : List AV) [k : K1 AV] : Prop := ∃ r, b44 b67 xs = some r /\ k.k r
def b9y (xs : List AV) [k : K1 AV] : Prop := ∃ r, b44 b65 xs = some r /\ k.k r
section
variable {O : Orac} {d : Option Nat} {g : Nat} {b0 : Bool} {r : List XO} {K : Slots -> Heap -> Prop} {t : Slots} {h : Heap} {k : AV -> Heap -> Prop} {k1 : AV -> Prop}
theorem j2f {xs} : b0d O (⟨d, none, .min xs⟩ :: r) K t h = @iop O (.min xs) t h ⟨fun v h' => b0d O r K (b0h t d v) h'⟩ := b2j rfl
theorem j3h {xs} : b0d O (⟨d, some (g, b0), .min xs⟩ :: r) K t h = @b2e (t g) b0 ⟨@iop O (.min xs) (upd t g (B b0)) h ⟨fun v h' => b0d O r K (b0h (upd t g (B b0)) d v) h'⟩⟩ ⟨b0d O r K (b0h (upd t g (B (!b0))) d U) h⟩ ⟨b0d O r K (b0h t d U) h⟩ := b2h rfl
theorem j2e {xs} : b0d O (⟨d, none, .max xs⟩ :: r) K t h = @iop O (.max xs) t h ⟨fun v h' => b0d O r K (b0h t d v) h'⟩ := b2j rfl
theorem j3g {xs} : b0d O (⟨d, some (g, b0), .max xs⟩ :: r) K t h = @b2e (t g) b0 ⟨@iop O (.max xs) (upd t g (B b0)) h ⟨fun v h' => b0d O r K (b0h (upd t g (B b0)) d v) h'⟩⟩ ⟨b0d O r K (b0h (upd t g (B (!b0))) d U) h⟩ ⟨b0d O r K (b0h t d U) h⟩ := b2h rfl
theorem j4i {xs} : @iop O (.min xs) t h ⟨k⟩ = @b9z (xs.map (evT t)) ⟨fun v => k v h⟩ := by
 simp only [iop, op1, b9z, eff, Option.map_eq_some_iff]
 apply propext; constructor
 ·rintro ⟨r, h', ⟨x, h1, h2⟩, hk⟩; cases h2; exact ⟨_, h1, hk⟩
 ·rintro ⟨r, h1, hk⟩; exact ⟨r, h, ⟨r, h1, rfl⟩, hk⟩
theorem j4h {xs} : @iop O (.max xs) t h ⟨k⟩ = @b9y (xs.map (evT t)) ⟨fun v => k v h⟩ := by
 simp only [iop, op1, b9y, eff, Option.map_eq_some_iff]
 apply propext; constructor
 ·rintro ⟨r, h', ⟨x, h1, h2⟩, hk⟩; cases h2; exact ⟨_, h1, hk⟩
 ·rintro ⟨r, h1, hk⟩; exact ⟨r, h, ⟨r, h1, rfl⟩, hk⟩
theorem d8g {a b : Int} {kd kd'} : @b9z [.v (.int kd a), .v (.int kd' b)] ⟨k1⟩ = k1 (.v (.int kd (mn a b))) := by
 simp [b9z, b44, b67, mn]
theorem d8e {a b : Int} {kd kd'} : @b9y [.v (.int kd a), .v (.int kd' b)] ⟨k1⟩ = k1 (.v (.int kd (mx a b))) := by
 simp [b9y, b44, b65, mx]
theorem d8h {a b c : Int} {kd kd' kd''} : @b9z [.v (.int kd a), .v (.int kd' b), .v (.int kd'' c)] ⟨k1⟩ = k1 (.v (.int kd (mn (mn a b) c))) := by
 simp [b9z, b44, b67, mn]
 exact Iff.rfl
theorem d8f {a b c : Int} {kd kd' kd''} : @b9y [.v (.int kd a), .v (.int kd' b), .v (.int kd'' c)] ⟨k1⟩ = k1 (.v (.int kd (mx (mx a b) c))) := by
 simp [b9y, b44, b65, mx]
theorem j16 {agg n o x} : b0d O (⟨d, none, .fld agg n o x⟩ :: r) K t h = @iop O (.fld agg n o x) t h ⟨fun v h' => b0d O r K (b0h t d v) h'⟩ := b2j rfl
theorem j28 {agg n o x} : b0d O (⟨d, some (g, b0), .fld agg n o x⟩ :: r) K t h = @b2e (t g) b0 ⟨@iop O (.fld agg n o x) (upd t g (B b0)) h ⟨fun v h' => b0d O r K (b0h (upd t g (B b0)) d v) h'⟩⟩ ⟨b0d O r K (b0h (upd t g (B (!b0))) d U) h⟩ ⟨b0d O r K (b0h t d U) h⟩ := b2h rfl
def d0x (agg : Bool) (n o : Nat) (x : AV) [k : K1 AV] : Prop := match x with | .agg cs => b5f agg n cs o k.k | _ => False
theorem j39 {agg n o x} : @iop O (.fld agg n o x) t h ⟨k⟩ = @d0x agg n o (evT t x) ⟨fun v => k v h⟩ := by
 simp only [iop, op1, d0x, eff]
 generalize evT t x = y
 cases y with
 | agg cs =>
  simp only [b5f, b4m]
  cases agg with
  | true =>
   simp only [if_true]
   apply propext; constructor
   ·rintro ⟨r, h', he, hk⟩; split at he
    ·rename_i ho; cases he; exact ⟨ho, hk⟩
    ·cases he
   ·rintro ⟨h1, h2⟩; exact ⟨_, _, by rw [if_pos h1], h2⟩
  | false =>
   simp only [Bool.false_eq_true, if_false, Option.map_eq_some_iff]
   apply propext; constructor
   ·rintro ⟨r, h', ⟨x, h1, h2⟩, hk⟩; cases h2; exact ⟨_, h1, hk⟩
   ·rintro ⟨v, h1, h2⟩; exact ⟨v, h, ⟨v, h1, rfl⟩, h2⟩
 | _ => simp
theorem d7w {agg n o cs} : @d0x agg n o (.agg cs) ⟨k1⟩ = @c18 agg n cs o ⟨k1⟩ := rfl
end
def c0v (v : AV) (j : Nat) : Bool := match v with | .rs id _ _ => id == j | .rp id _ _ => id == j | _ => false
theorem g4r {h : Heap} {F : Nat -> Bool} {j : Nat} (hj : F j = false) : (h.but F).ob j = h.ob j := by simp [Heap.but, hj]
theorem g4q {h : Heap} {F : Nat -> Bool} : (h.but F).nx = h.nx := by simp [Heap.but]
theorem c6a {h : Heap} {F : Nat -> Bool} {j : Nat} (hj : F j = true) : (h.only F).ob j = h.ob j := by simp [Heap.only, hj]
theorem g7f {O : Orac} {b : XCode} {Q : XExit -> Slots -> Heap -> Prop} {t : Slots} {h : Heap} {s : Nat} {v y : AV} (F : Nat -> Bool) (hs : t s = v) (hz : Fz (h.only F) v y) (hf : Frz y)
  (hw : cw O b Q (upd t s y) (h.but F)) : cw O (.seq .ghost b) Q t h := by
 subst hs
 exact c1q (c5h (.inr ⟨hz, hf⟩)) hw
theorem g7i {O : Orac} {Q : XExit -> Slots -> Heap -> Prop} {t : Slots} {h : Heap} (hw : cw O (.seq .ghost .skip) Q t h) : cw O .ghost Q t h := hw
inductive FzR (h : Heap) : List (List AV) -> List (List AV) -> Prop
 | nil : FzR h [] []
 | cons {x y : List AV} {xs ys : List (List AV)} (a : FzL h x y) (b : FzR h xs ys) : FzR h (x :: xs) (y :: ys)
attribute [go_sem ↓] j2f j3h j2e j3g j4i j4h j16 j28 j39 d8g d8e d8h d8f d7w
attribute [go_sem] d8g d8e d8h d8f d7w g4q g4r
end Go.Nw
namespace Go.Nw
theorem g1n {v : AV} {j : Nat} (hj : ¬ b0s v j) : c0v v j = true := by
 unfold b0s at hj; unfold c0v
 split at hj
 ·simpa using hj
 ·simp at hj
end Go.Nw
namespace Go.Nw
def sub {α : Type} (l : List α) (a b : Int) : Option (List α) := if 0 <= a /\ a <= b /\ b <= l.length then some ((l.take b.toNat).drop a.toNat) else none
def d06 (n : Nat) (x : AV) (lo hi : Option AV) (h : Heap) [k : K2] : Prop := ∃ (r' : AV) (h' : Heap), ((b2r x).bind fun len =>
  (b4z 0 lo).bind fun l =>
  (b46 len hi).bind fun r =>
  if l <= r then
   match x with
   | .fs sz es => if sz = n then some (.fs sz ((es.take r).drop l), h) else none
   | .rs id lo' _ => (h.ob id).bind fun o => if (l = 0 \/ l < r) /\ o.1 = n then some (.rs id (lo' + l) (r - l), h) else none
   | .v (.slice none 0 0) => some (.v (.slice none 0 0), h)
   | _ => none
  else none) = some (r', h') /\ k.k r' h'
section
variable {O : Orac} {d : Option Nat} {g : Nat} {b0 : Bool} {r : List XO} {K : Slots -> Heap -> Prop} {t : Slots} {h : Heap} {k : AV -> Heap -> Prop}
theorem j2l {n x lo hi} : b0d O (⟨d, none, .slc n x lo hi⟩ :: r) K t h = @iop O (.slc n x lo hi) t h ⟨fun v h' => b0d O r K (b0h t d v) h'⟩ := b2j rfl
theorem j3n {n x lo hi} : b0d O (⟨d, some (g, b0), .slc n x lo hi⟩ :: r) K t h = @b2e (t g) b0 ⟨@iop O (.slc n x lo hi) (upd t g (B b0)) h ⟨fun v h' => b0d O r K (b0h (upd t g (B b0)) d v) h'⟩⟩ ⟨b0d O r K (b0h (upd t g (B (!b0))) d U) h⟩ ⟨b0d O r K (b0h t d U) h⟩ := b2h rfl
theorem j4o {n x lo hi} : @iop O (.slc n x lo hi) t h ⟨k⟩ = @d06 n (evT t x) (lo.map (evT t)) (hi.map (evT t)) h ⟨k⟩ := rfl
end
attribute [go_sem ↓] j2l j3n j4o
attribute [go_sem] Option.map_none
end Go.Nw
namespace Go.Nw
theorem g1o {h : Heap} {v : AV} {sz : Nat} {rows : List (List AV)} {j : Nat} (hv : b1o h v sz rows) (hj : b0s v j) : c0v v j = false := by
 rcases hv with ⟨rfl, _⟩ | ⟨id, rfl, _, _⟩
 ·rfl
 ·simpa [c0v, b0s] using hj
end Go.Nw
namespace Go.Nw
def c9r (k : IntKind) (a b : Int) : Int := k.wrap (BitVec.ofInt k.bits a &&& BitVec.ofInt k.bits b).toNat
def c9u (k : IntKind) (a b : Int) : Int := k.wrap (BitVec.ofInt k.bits a ||| BitVec.ofInt k.bits b).toNat
def d4l (k : IntKind) (a b : Int) : Int := k.wrap (BitVec.ofInt k.bits a ^^^ BitVec.ofInt k.bits b).toNat
def c9s (k : IntKind) (a b : Int) : Int := k.wrap (BitVec.ofInt k.bits a &&& ~~~(BitVec.ofInt k.bits b)).toNat
def d4j (k : IntKind) (a : Int) : Int := k.wrap (BitVec.ofInt k.bits (if k.signed then -1 else k.max) ^^^ BitVec.ofInt k.bits a).toNat
abbrev b6o (a b : Int) : Int := c9r .i64 a b
abbrev bor (a b : Int) : Int := c9u .i64 a b
abbrev d4i (a b : Int) : Int := c9s .i64 a b
def c7d (k : IntKind) (a b : Int) : Int := k.wrap (a * 2 ^ (Nat.min b.toNat k.bits))
def d3r (k : IntKind) (a b : Int) : Int := a.fdiv (2 ^ (Nat.min b.toNat k.bits))
def shl (k : IntKind) (a b : Int) : Option Int := if b < 0 then none else some (c7d k a b)
def shr (k : IntKind) (a b : Int) : Option Int := if b < 0 then none else some (d3r k a b)
def quo (k : IntKind) (a b : Int) : Option Int := if b = 0 then none else some (k.wrap (a.tdiv b))
def rem (a b : Int) : Option Int := if b = 0 then none else some (a.tmod b)
theorem l3k {k : IntKind} {a b : Int} (h : 0 <= b) : shl k a b = some (c7d k a b) := by unfold shl; rw [if_neg (by omega)]
theorem g05 {k : IntKind} {a b : Int} (h : 0 <= b) : shr k a b = some (d3r k a b) := by unfold shr; rw [if_neg (by omega)]
section
variable {k : AV -> Prop} {e : EqK} {kd kd' : IntKind} {a b : Int}
theorem d6n : @b2d .and e (.v (.int kd a)) (.v (.int kd b)) ⟨k⟩ = k (.v (.int kd (c9r kd a b))) := b4r (by simp [b3f, b3y, c9r])
theorem d68 : @b2d .or e (.v (.int kd a)) (.v (.int kd b)) ⟨k⟩ = k (.v (.int kd (c9u kd a b))) := b4r (by simp [b3f, b3y, c9u])
theorem d7c : @b2d .xor e (.v (.int kd a)) (.v (.int kd b)) ⟨k⟩ = k (.v (.int kd (d4l kd a b))) := b4r (by simp [b3f, b3y, d4l])
theorem d6q : @b2d .andNot e (.v (.int kd a)) (.v (.int kd b)) ⟨k⟩ = k (.v (.int kd (c9s kd a b))) := b4r (by simp [b3f, b3y, c9s])
theorem b8g {r : Int} (h : shl kd a b = some r) : @b2d .shl e (.v (.int kd a)) (.v (.int kd' b)) ⟨k⟩ = k (.v (.int kd r)) := by
 unfold shl at h; split at h
 ·cases h
 ·rename_i hb; cases h
  show b1q _ _ _ _ _ = _
  simp [b1q, b27, b3f, c0p, hb, c7d]
theorem c5n {r : Int} (h : shr kd a b = some r) : @b2d .shr e (.v (.int kd a)) (.v (.int kd' b)) ⟨k⟩ = k (.v (.int kd r)) := by
 unfold shr at h; split at h
 ·cases h
 ·rename_i hb; cases h
  show b1q _ _ _ _ _ = _
  simp [b1q, b27, b3f, c0p, hb, d3r]
theorem d82 : @iun .xor (.v (.int kd a)) ⟨k⟩ = k (.v (.int kd (d4j kd a))) := by
 show unK _ _ _ = _
 simp [unK, b7m, d4j]
end
def d0v (kd : IntKind) (x : AV) [k : K1 AV] : Prop := match x with | .v (.int _ n) => k.k (.v (.int kd (kd.wrap n))) | _ => False
section
variable {O : Orac} {d : Option Nat} {g : Nat} {b0 : Bool} {r : List XO} {K : Slots -> Heap -> Prop} {t : Slots} {h : Heap} {k : AV -> Heap -> Prop} {k1 : AV -> Prop}
theorem j14 {kd x} : b0d O (⟨d, none, .cvtI kd x⟩ :: r) K t h = @iop O (.cvtI kd x) t h ⟨fun v h' => b0d O r K (b0h t d v) h'⟩ := b2j rfl
theorem j26 {kd x} : b0d O (⟨d, some (g, b0), .cvtI kd x⟩ :: r) K t h = @b2e (t g) b0 ⟨@iop O (.cvtI kd x) (upd t g (B b0)) h ⟨fun v h' => b0d O r K (b0h (upd t g (B b0)) d v) h'⟩⟩ ⟨b0d O r K (b0h (upd t g (B (!b0))) d U) h⟩ ⟨b0d O r K (b0h t d U) h⟩ := b2h rfl
theorem j37 {kd x} : @iop O (.cvtI kd x) t h ⟨k⟩ = @d0v kd (evT t x) ⟨fun v => k v h⟩ := by
 simp only [iop, op1, d0v, eff]
 generalize evT t x = y
 cases y with
 | v z =>
  cases z with
  | int k' n => exact ex1
  | _ => exact ex0
 | _ => exact ex0
theorem d7s {kd kd' : IntKind} {n : Int} : @d0v kd (.v (.int kd' n)) ⟨k1⟩ = k1 (.v (.int kd (kd.wrap n))) := rfl
end
attribute [go_sem ↓] j14 j26 j37 d7s d6n d68 d7c d6q d82
attribute [go_sem] d7s d6n d68 d7c d6q d82
end Go.Nw
namespace Go.Nw
theorem d6t {k : AV -> Prop} {a b c d : Int} : @b2d .eql (.flat [.i, .i]) (.agg [I a, I b]) (.agg [I c, I d]) ⟨k⟩ = k (B (decide (a = c) && decide (b = d))) := by
 show b1q _ _ _ _ _ = _
 by_cases h1 : a = c <;> by_cases h2 : b = d <;> simp [b1q, b27, b2u, b3r, h1, h2]
theorem d62 {k : AV -> Prop} {a b c d : Int} : @b2d .neq (.flat [.i, .i]) (.agg [I a, I b]) (.agg [I c, I d]) ⟨k⟩ = k (B (!(decide (a = c) && decide (b = d)))) := by
 show b1q _ _ _ _ _ = _
 by_cases h1 : a = c <;> by_cases h2 : b = d <;> simp [b1q, b27, b2u, b3r, h1, h2]
theorem d6u {k : AV -> Prop} {a b c d x y : Int} : @b2d .eql (.flat [.i, .i, .i]) (.agg [I a, I b, I x]) (.agg [I c, I d, I y]) ⟨k⟩ = k (B (decide (a = c) && decide (b = d) && decide (x = y))) := by
 show b1q _ _ _ _ _ = _
 by_cases h1 : a = c <;> by_cases h2 : b = d <;> by_cases h3 : x = y <;> simp [b1q, b27, b2u, b3r, h1, h2, h3]
theorem d63 {k : AV -> Prop} {a b c d x y : Int} : @b2d .neq (.flat [.i, .i, .i]) (.agg [I a, I b, I x]) (.agg [I c, I d, I y]) ⟨k⟩ = k (B (!(decide (a = c) && decide (b = d) && decide (x = y)))) := by
 show b1q _ _ _ _ _ = _
 by_cases h1 : a = c <;> by_cases h2 : b = d <;> by_cases h3 : x = y <;> simp [b1q, b27, b2u, b3r, h1, h2, h3]
theorem d64 {k : AV -> Prop} : @b2d .eql .slice (.v (.slice none 0 0)) (.v (.slice none 0 0)) ⟨k⟩ = k (B true) := by
 show b1q _ _ _ _ _ = _
 simp [b1q, b27, b2u, b91]
theorem d66 {k : AV -> Prop} : @b2d .neq .slice (.v (.slice none 0 0)) (.v (.slice none 0 0)) ⟨k⟩ = k (B false) := by
 show b1q _ _ _ _ _ = _
 simp [b1q, b27, b2u, b91]
theorem d65 {k : AV -> Prop} {a b c : Nat} : @b2d .eql .slice (.rs a b c) (.v (.slice none 0 0)) ⟨k⟩ = k (B false) := by
 show b1q _ _ _ _ _ = _
 simp [b1q, b27, b2u, b91]
theorem d67 {k : AV -> Prop} {a b c : Nat} : @b2d .neq .slice (.rs a b c) (.v (.slice none 0 0)) ⟨k⟩ = k (B true) := by
 show b1q _ _ _ _ _ = _
 simp [b1q, b27, b2u, b91]
attribute [go_sem ↓] d6t d62 d6u d63 d64 d66 d65 d67
attribute [go_sem] d6t d62 d6u d63 d64 d66 d65 d67
attribute [go_sem] beq_self_eq_true eq_self
theorem nxa {a b : Nat} : (nxs a = nxs b) = (a = b) := by simp [nxs]
theorem nxb {a b : Nat} : (nxs a < nxs b) = (a < b) := by simp [nxs]
theorem j8l {n : Nat} : (n < nxs n) = True := by simp only [nxs, eq_iff_iff, iff_true]; omega
theorem j81 {i n : Nat} (h : i < n) : (i < nxs n) = True := by simp only [nxs, eq_iff_iff, iff_true]; omega
theorem j6n {n : Nat} : (n = nxs n) = False := by simp only [nxs, eq_iff_iff, iff_false]; omega
theorem j63 {n : Nat} : (nxs n = n) = False := by simp only [nxs, eq_iff_iff, iff_false]; omega
theorem j7k {i n : Nat} (h : i < n) : (i = nxs n) = False := by simp only [nxs, eq_iff_iff, iff_false]; omega
theorem j71 {i n : Nat} (h : i < n) : (nxs n = i) = False := by simp only [nxs, eq_iff_iff, iff_false]; omega
theorem j8t {n : Nat} : (n < nxs (nxs n)) = True := by simp only [nxs, eq_iff_iff, iff_true]; omega
theorem j89 {i n : Nat} (h : i < n) : (i < nxs (nxs n)) = True := by simp only [nxs, eq_iff_iff, iff_true]; omega
theorem j6v {n : Nat} : (n = nxs (nxs n)) = False := by simp only [nxs, eq_iff_iff, iff_false]; omega
theorem j7b {n : Nat} : (nxs (nxs n) = n) = False := by simp only [nxs, eq_iff_iff, iff_false]; omega
theorem j7s {i n : Nat} (h : i < n) : (i = nxs (nxs n)) = False := by simp only [nxs, eq_iff_iff, iff_false]; omega
theorem j79 {i n : Nat} (h : i < n) : (nxs (nxs n) = i) = False := by simp only [nxs, eq_iff_iff, iff_false]; omega
theorem j8u {n : Nat} : (n < nxs (nxs (nxs n))) = True := by simp only [nxs, eq_iff_iff, iff_true]; omega
theorem j9a {i n : Nat} (h : i < n) : (i < nxs (nxs (nxs n))) = True := by simp only [nxs, eq_iff_iff, iff_true]; omega
theorem j6w {n : Nat} : (n = nxs (nxs (nxs n))) = False := by simp only [nxs, eq_iff_iff, iff_false]; omega
theorem j7c {n : Nat} : (nxs (nxs (nxs n)) = n) = False := by simp only [nxs, eq_iff_iff, iff_false]; omega
theorem j7t {i n : Nat} (h : i < n) : (i = nxs (nxs (nxs n))) = False := by simp only [nxs, eq_iff_iff, iff_false]; omega
theorem j8a {i n : Nat} (h : i < n) : (nxs (nxs (nxs n)) = i) = False := by simp only [nxs, eq_iff_iff, iff_false]; omega
theorem j8v {n : Nat} : (n < nxs (nxs (nxs (nxs n)))) = True := by simp only [nxs, eq_iff_iff, iff_true]; omega
theorem j9b {i n : Nat} (h : i < n) : (i < nxs (nxs (nxs (nxs n)))) = True := by simp only [nxs, eq_iff_iff, iff_true]; omega
theorem j6x {n : Nat} : (n = nxs (nxs (nxs (nxs n)))) = False := by simp only [nxs, eq_iff_iff, iff_false]; omega
theorem j7d {n : Nat} : (nxs (nxs (nxs (nxs n))) = n) = False := by simp only [nxs, eq_iff_iff, iff_false]; omega
theorem j7u {i n : Nat} (h : i < n) : (i = nxs (nxs (nxs (nxs n)))) = False := by simp only [nxs, eq_iff_iff, iff_false]; omega
theorem j8b {i n : Nat} (h : i < n) : (nxs (nxs (nxs (nxs n))) = i) = False := by simp only [nxs, eq_iff_iff, iff_false]; omega
theorem j8w {n : Nat} : (n < nxs (nxs (nxs (nxs (nxs n))))) = True := by simp only [nxs, eq_iff_iff, iff_true]; omega
theorem j9c {i n : Nat} (h : i < n) : (i < nxs (nxs (nxs (nxs (nxs n))))) = True := by simp only [nxs, eq_iff_iff, iff_true]; omega
theorem j6y {n : Nat} : (n = nxs (nxs (nxs (nxs (nxs n))))) = False := by simp only [nxs, eq_iff_iff, iff_false]; omega
theorem j7e {n : Nat} : (nxs (nxs (nxs (nxs (nxs n)))) = n) = False := by simp only [nxs, eq_iff_iff, iff_false]; omega
theorem j7v {i n : Nat} (h : i < n) : (i = nxs (nxs (nxs (nxs (nxs n))))) = False := by simp only [nxs, eq_iff_iff, iff_false]; omega
theorem j8c {i n : Nat} (h : i < n) : (nxs (nxs (nxs (nxs (nxs n)))) = i) = False := by simp only [nxs, eq_iff_iff, iff_false]; omega
theorem j8x {n : Nat} : (n < nxs (nxs (nxs (nxs (nxs (nxs n)))))) = True := by simp only [nxs, eq_iff_iff, iff_true]; omega
theorem j9d {i n : Nat} (h : i < n) : (i < nxs (nxs (nxs (nxs (nxs (nxs n)))))) = True := by simp only [nxs, eq_iff_iff, iff_true]; omega
theorem j6z {n : Nat} : (n = nxs (nxs (nxs (nxs (nxs (nxs n)))))) = False := by simp only [nxs, eq_iff_iff, iff_false]; omega
theorem j7f {n : Nat} : (nxs (nxs (nxs (nxs (nxs (nxs n))))) = n) = False := by simp only [nxs, eq_iff_iff, iff_false]; omega
theorem j7w {i n : Nat} (h : i < n) : (i = nxs (nxs (nxs (nxs (nxs (nxs n)))))) = False := by simp only [nxs, eq_iff_iff, iff_false]; omega
theorem j8d {i n : Nat} (h : i < n) : (nxs (nxs (nxs (nxs (nxs (nxs n))))) = i) = False := by simp only [nxs, eq_iff_iff, iff_false]; omega
theorem j8y {n : Nat} : (n < nxs (nxs (nxs (nxs (nxs (nxs (nxs n))))))) = True := by simp only [nxs, eq_iff_iff, iff_true]; omega
theorem j9e {i n : Nat} (h : i < n) : (i < nxs (nxs (nxs (nxs (nxs (nxs (nxs n))))))) = True := by simp only [nxs, eq_iff_iff, iff_true]; omega
theorem j60 {n : Nat} : (n = nxs (nxs (nxs (nxs (nxs (nxs (nxs n))))))) = False := by simp only [nxs, eq_iff_iff, iff_false]; omega
theorem j7g {n : Nat} : (nxs (nxs (nxs (nxs (nxs (nxs (nxs n)))))) = n) = False := by simp only [nxs, eq_iff_iff, iff_false]; omega
theorem j7x {i n : Nat} (h : i < n) : (i = nxs (nxs (nxs (nxs (nxs (nxs (nxs n))))))) = False := by simp only [nxs, eq_iff_iff, iff_false]; omega
theorem j8e {i n : Nat} (h : i < n) : (nxs (nxs (nxs (nxs (nxs (nxs (nxs n)))))) = i) = False := by simp only [nxs, eq_iff_iff, iff_false]; omega
theorem j8z {n : Nat} : (n < nxs (nxs (nxs (nxs (nxs (nxs (nxs (nxs n)))))))) = True := by simp only [nxs, eq_iff_iff, iff_true]; omega
theorem j9f {i n : Nat} (h : i < n) : (i < nxs (nxs (nxs (nxs (nxs (nxs (nxs (nxs n)))))))) = True := by simp only [nxs, eq_iff_iff, iff_true]; omega
theorem j61 {n : Nat} : (n = nxs (nxs (nxs (nxs (nxs (nxs (nxs (nxs n)))))))) = False := by simp only [nxs, eq_iff_iff, iff_false]; omega
theorem j7h {n : Nat} : (nxs (nxs (nxs (nxs (nxs (nxs (nxs (nxs n))))))) = n) = False := by simp only [nxs, eq_iff_iff, iff_false]; omega
theorem j7y {i n : Nat} (h : i < n) : (i = nxs (nxs (nxs (nxs (nxs (nxs (nxs (nxs n)))))))) = False := by simp only [nxs, eq_iff_iff, iff_false]; omega
theorem j8f {i n : Nat} (h : i < n) : (nxs (nxs (nxs (nxs (nxs (nxs (nxs (nxs n))))))) = i) = False := by simp only [nxs, eq_iff_iff, iff_false]; omega
theorem j80 {n : Nat} : (n < nxs (nxs (nxs (nxs (nxs (nxs (nxs (nxs (nxs n))))))))) = True := by simp only [nxs, eq_iff_iff, iff_true]; omega
theorem j9g {i n : Nat} (h : i < n) : (i < nxs (nxs (nxs (nxs (nxs (nxs (nxs (nxs (nxs n))))))))) = True := by simp only [nxs, eq_iff_iff, iff_true]; omega
theorem j62 {n : Nat} : (n = nxs (nxs (nxs (nxs (nxs (nxs (nxs (nxs (nxs n))))))))) = False := by simp only [nxs, eq_iff_iff, iff_false]; omega
theorem j7i {n : Nat} : (nxs (nxs (nxs (nxs (nxs (nxs (nxs (nxs (nxs n)))))))) = n) = False := by simp only [nxs, eq_iff_iff, iff_false]; omega
theorem j7z {i n : Nat} (h : i < n) : (i = nxs (nxs (nxs (nxs (nxs (nxs (nxs (nxs (nxs n))))))))) = False := by simp only [nxs, eq_iff_iff, iff_false]; omega
theorem j8g {i n : Nat} (h : i < n) : (nxs (nxs (nxs (nxs (nxs (nxs (nxs (nxs (nxs n)))))))) = i) = False := by simp only [nxs, eq_iff_iff, iff_false]; omega
theorem j8m {n : Nat} : (n < nxs (nxs (nxs (nxs (nxs (nxs (nxs (nxs (nxs (nxs n)))))))))) = True := by simp only [nxs, eq_iff_iff, iff_true]; omega
theorem j82 {i n : Nat} (h : i < n) : (i < nxs (nxs (nxs (nxs (nxs (nxs (nxs (nxs (nxs (nxs n)))))))))) = True := by simp only [nxs, eq_iff_iff, iff_true]; omega
theorem j6o {n : Nat} : (n = nxs (nxs (nxs (nxs (nxs (nxs (nxs (nxs (nxs (nxs n)))))))))) = False := by simp only [nxs, eq_iff_iff, iff_false]; omega
theorem j64 {n : Nat} : (nxs (nxs (nxs (nxs (nxs (nxs (nxs (nxs (nxs (nxs n))))))))) = n) = False := by simp only [nxs, eq_iff_iff, iff_false]; omega
theorem j7l {i n : Nat} (h : i < n) : (i = nxs (nxs (nxs (nxs (nxs (nxs (nxs (nxs (nxs (nxs n)))))))))) = False := by simp only [nxs, eq_iff_iff, iff_false]; omega
theorem j72 {i n : Nat} (h : i < n) : (nxs (nxs (nxs (nxs (nxs (nxs (nxs (nxs (nxs (nxs n))))))))) = i) = False := by simp only [nxs, eq_iff_iff, iff_false]; omega
theorem j8n {n : Nat} : (n < nxs (nxs (nxs (nxs (nxs (nxs (nxs (nxs (nxs (nxs (nxs n))))))))))) = True := by simp only [nxs, eq_iff_iff, iff_true]; omega
theorem j83 {i n : Nat} (h : i < n) : (i < nxs (nxs (nxs (nxs (nxs (nxs (nxs (nxs (nxs (nxs (nxs n))))))))))) = True := by simp only [nxs, eq_iff_iff, iff_true]; omega
theorem j6p {n : Nat} : (n = nxs (nxs (nxs (nxs (nxs (nxs (nxs (nxs (nxs (nxs (nxs n))))))))))) = False := by simp only [nxs, eq_iff_iff, iff_false]; omega
theorem j65 {n : Nat} : (nxs (nxs (nxs (nxs (nxs (nxs (nxs (nxs (nxs (nxs (nxs n)))))))))) = n) = False := by simp only [nxs, eq_iff_iff, iff_false]; omega
theorem j7m {i n : Nat} (h : i < n) : (i = nxs (nxs (nxs (nxs (nxs (nxs (nxs (nxs (nxs (nxs (nxs n))))))))))) = False := by simp only [nxs, eq_iff_iff, iff_false]; omega
theorem j73 {i n : Nat} (h : i < n) : (nxs (nxs (nxs (nxs (nxs (nxs (nxs (nxs (nxs (nxs (nxs n)))))))))) = i) = False := by simp only [nxs, eq_iff_iff, iff_false]; omega
theorem j8o {n : Nat} : (n < nxs (nxs (nxs (nxs (nxs (nxs (nxs (nxs (nxs (nxs (nxs (nxs n)))))))))))) = True := by simp only [nxs, eq_iff_iff, iff_true]; omega
theorem j84 {i n : Nat} (h : i < n) : (i < nxs (nxs (nxs (nxs (nxs (nxs (nxs (nxs (nxs (nxs (nxs (nxs n)))))))))))) = True := by simp only [nxs, eq_iff_iff, iff_true]; omega
theorem j6q {n : Nat} : (n = nxs (nxs (nxs (nxs (nxs (nxs (nxs (nxs (nxs (nxs (nxs (nxs n)))))))))))) = False := by simp only [nxs, eq_iff_iff, iff_false]; omega
theorem j66 {n : Nat} : (nxs (nxs (nxs (nxs (nxs (nxs (nxs (nxs (nxs (nxs (nxs (nxs n))))))))))) = n) = False := by simp only [nxs, eq_iff_iff, iff_false]; omega
theorem j7n {i n : Nat} (h : i < n) : (i = nxs (nxs (nxs (nxs (nxs (nxs (nxs (nxs (nxs (nxs (nxs (nxs n)))))))))))) = False := by simp only [nxs, eq_iff_iff, iff_false]; omega
theorem j74 {i n : Nat} (h : i < n) : (nxs (nxs (nxs (nxs (nxs (nxs (nxs (nxs (nxs (nxs (nxs (nxs n))))))))))) = i) = False := by simp only [nxs, eq_iff_iff, iff_false]; omega
theorem j8p {n : Nat} : (n < nxs (nxs (nxs (nxs (nxs (nxs (nxs (nxs (nxs (nxs (nxs (nxs (nxs n))))))))))))) = True := by simp only [nxs, eq_iff_iff, iff_true]; omega
theorem j85 {i n : Nat} (h : i < n) : (i < nxs (nxs (nxs (nxs (nxs (nxs (nxs (nxs (nxs (nxs (nxs (nxs (nxs n))))))))))))) = True := by simp only [nxs, eq_iff_iff, iff_true]; omega
theorem j6r {n : Nat} : (n = nxs (nxs (nxs (nxs (nxs (nxs (nxs (nxs (nxs (nxs (nxs (nxs (nxs n))))))))))))) = False := by simp only [nxs, eq_iff_iff, iff_false]; omega
theorem j67 {n : Nat} : (nxs (nxs (nxs (nxs (nxs (nxs (nxs (nxs (nxs (nxs (nxs (nxs (nxs n)))))))))))) = n) = False := by simp only [nxs, eq_iff_iff, iff_false]; omega
theorem j7o {i n : Nat} (h : i < n) : (i = nxs (nxs (nxs (nxs (nxs (nxs (nxs (nxs (nxs (nxs (nxs (nxs (nxs n))))))))))))) = False := by simp only [nxs, eq_iff_iff, iff_false]; omega
theorem j75 {i n : Nat} (h : i < n) : (nxs (nxs (nxs (nxs (nxs (nxs (nxs (nxs (nxs (nxs (nxs (nxs (nxs n)))))))))))) = i) = False := by simp only [nxs, eq_iff_iff, iff_false]; omega
theorem j8q {n : Nat} : (n < nxs (nxs (nxs (nxs (nxs (nxs (nxs (nxs (nxs (nxs (nxs (nxs (nxs (nxs n)))))))))))))) = True := by simp only [nxs, eq_iff_iff, iff_true]; omega
theorem j86 {i n : Nat} (h : i < n) : (i < nxs (nxs (nxs (nxs (nxs (nxs (nxs (nxs (nxs (nxs (nxs (nxs (nxs (nxs n)))))))))))))) = True := by simp only [nxs, eq_iff_iff, iff_true]; omega
theorem j6s {n : Nat} : (n = nxs (nxs (nxs (nxs (nxs (nxs (nxs (nxs (nxs (nxs (nxs (nxs (nxs (nxs n)))))))))))))) = False := by simp only [nxs, eq_iff_iff, iff_false]; omega
theorem j68 {n : Nat} : (nxs (nxs (nxs (nxs (nxs (nxs (nxs (nxs (nxs (nxs (nxs (nxs (nxs (nxs n))))))))))))) = n) = False := by simp only [nxs, eq_iff_iff, iff_false]; omega
theorem j7p {i n : Nat} (h : i < n) : (i = nxs (nxs (nxs (nxs (nxs (nxs (nxs (nxs (nxs (nxs (nxs (nxs (nxs (nxs n)))))))))))))) = False := by simp only [nxs, eq_iff_iff, iff_false]; omega
theorem j76 {i n : Nat} (h : i < n) : (nxs (nxs (nxs (nxs (nxs (nxs (nxs (nxs (nxs (nxs (nxs (nxs (nxs (nxs n))))))))))))) = i) = False := by simp only [nxs, eq_iff_iff, iff_false]; omega
theorem j8r {n : Nat} : (n < nxs (nxs (nxs (nxs (nxs (nxs (nxs (nxs (nxs (nxs (nxs (nxs (nxs (nxs (nxs n))))))))))))))) = True := by simp only [nxs, eq_iff_iff, iff_true]; omega
theorem j87 {i n : Nat} (h : i < n) : (i < nxs (nxs (nxs (nxs (nxs (nxs (nxs (nxs (nxs (nxs (nxs (nxs (nxs (nxs (nxs n))))))))))))))) = True := by simp only [nxs, eq_iff_iff, iff_true]; omega
theorem j6t {n : Nat} : (n = nxs (nxs (nxs (nxs (nxs (nxs (nxs (nxs (nxs (nxs (nxs (nxs (nxs (nxs (nxs n))))))))))))))) = False := by simp only [nxs, eq_iff_iff, iff_false]; omega
theorem j69 {n : Nat} : (nxs (nxs (nxs (nxs (nxs (nxs (nxs (nxs (nxs (nxs (nxs (nxs (nxs (nxs (nxs n)))))))))))))) = n) = False := by simp only [nxs, eq_iff_iff, iff_false]; omega
theorem j7q {i n : Nat} (h : i < n) : (i = nxs (nxs (nxs (nxs (nxs (nxs (nxs (nxs (nxs (nxs (nxs (nxs (nxs (nxs (nxs n))))))))))))))) = False := by simp only [nxs, eq_iff_iff, iff_false]; omega
theorem j77 {i n : Nat} (h : i < n) : (nxs (nxs (nxs (nxs (nxs (nxs (nxs (nxs (nxs (nxs (nxs (nxs (nxs (nxs (nxs n)))))))))))))) = i) = False := by simp only [nxs, eq_iff_iff, iff_false]; omega
theorem j8s {n : Nat} : (n < nxs (nxs (nxs (nxs (nxs (nxs (nxs (nxs (nxs (nxs (nxs (nxs (nxs (nxs (nxs (nxs n)))))))))))))))) = True := by simp only [nxs, eq_iff_iff, iff_true]; omega
theorem j88 {i n : Nat} (h : i < n) : (i < nxs (nxs (nxs (nxs (nxs (nxs (nxs (nxs (nxs (nxs (nxs (nxs (nxs (nxs (nxs (nxs n)))))))))))))))) = True := by simp only [nxs, eq_iff_iff, iff_true]; omega
theorem j6u {n : Nat} : (n = nxs (nxs (nxs (nxs (nxs (nxs (nxs (nxs (nxs (nxs (nxs (nxs (nxs (nxs (nxs (nxs n)))))))))))))))) = False := by simp only [nxs, eq_iff_iff, iff_false]; omega
theorem j7a {n : Nat} : (nxs (nxs (nxs (nxs (nxs (nxs (nxs (nxs (nxs (nxs (nxs (nxs (nxs (nxs (nxs (nxs n))))))))))))))) = n) = False := by simp only [nxs, eq_iff_iff, iff_false]; omega
theorem j7r {i n : Nat} (h : i < n) : (i = nxs (nxs (nxs (nxs (nxs (nxs (nxs (nxs (nxs (nxs (nxs (nxs (nxs (nxs (nxs (nxs n)))))))))))))))) = False := by simp only [nxs, eq_iff_iff, iff_false]; omega
theorem j78 {i n : Nat} (h : i < n) : (nxs (nxs (nxs (nxs (nxs (nxs (nxs (nxs (nxs (nxs (nxs (nxs (nxs (nxs (nxs (nxs n))))))))))))))) = i) = False := by simp only [nxs, eq_iff_iff, iff_false]; omega
theorem j7j {i : Nat} {h : Heap} (hl : i < h.nx) : (i = h.nx) = False := by simp only [eq_iff_iff, iff_false]; omega
theorem j70 {i : Nat} {h : Heap} (hl : i < h.nx) : (h.nx = i) = False := by simp only [eq_iff_iff, iff_false]; omega
attribute [go_sem] nxa nxb j8l j81 j6n j63 j7k j71 j8t j89 j6v j7b j7s j79 j8u j9a j6w j7c j7t j8a j8v j9b j6x j7d j7u j8b j8w j9c j6y j7e j7v j8c j8x j9d j6z j7f j7w j8d j8y j9e j60 j7g j7x j8e j8z j9f j61 j7h j7y j8f j80 j9g j62 j7i j7z j8g j8m j82 j6o j64 j7l j72 j8n j83 j6p j65 j7m j73 j8o j84 j6q j66 j7n j74 j8p j85 j6r j67 j7o j75 j8q j86 j6s j68 j7p j76 j8r j87 j6t j69 j7q j77 j8s j88 j6u j7a j7r j78 j7j j70
end Go.Nw
