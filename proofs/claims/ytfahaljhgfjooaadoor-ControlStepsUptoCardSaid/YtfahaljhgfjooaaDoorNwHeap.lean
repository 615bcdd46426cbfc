/- Own objects: rules for what makes, reads, writes and hands them over. -/
import Derived.Test.YtfahaljhgfjooaaDoorNwModel
set_option linter.all false
namespace Go.Nw
theorem c92 {h : Heap} {o : Ob} {i : Nat} (hl : i < h.nx) : (h.new o).ob i = h.ob i := by
 simp only [Heap.new]; rw [if_neg (by omega)]
theorem c91 {h : Heap} {o : Ob} {i : Nat} (hl : i = h.nx) : (h.new o).ob i = some o := by
 simp only [Heap.new]; rw [if_pos hl]
theorem d8d {h : Heap} {o : Option Ob} {i j : Nat} (hl : ¬ i = j) : (h.upd j o).ob i = h.ob i := by
 simp only [Heap.upd]; rw [if_neg hl]
theorem j8s {h : Heap} {o : Option Ob} {i j : Nat} (hl : i = j) : (h.upd j o).ob i = o := by
 simp only [Heap.upd]; rw [if_pos hl]
theorem d3g {p : Prop} : @b31 True ⟨p⟩ = p := by simp [b31]
theorem c39 {α : Type} {f : α -> List AV} {l : List α} {i : Int} {x : α} {sz : Nat} {k : Nat -> List (List AV) -> List AV -> Prop} (hx : get l i = some x) :
  @c38 (some (sz, List.map f l)) i.toNat ⟨k⟩ = k sz (List.map f l) (f x) := by
 show b6w _ _ _ = _
 simp only [d7l, List.getElem?_map, b6c hx, Option.map_some, iE9]
 apply propext; constructor
 ·rintro ⟨_, rfl, hk⟩; exact hk
 ·exact fun hk => ⟨_, rfl, hk⟩
theorem j70 {l : List Int} {n : Nat} {v : Int} : (List.map eI l).set n [I v] = List.map eI (l.set n v) := by rw [List.map_set]; rfl
theorem j7z {l : List Bool} {n : Nat} {v : Bool} : (List.map eB l).set n [B v] = List.map eB (l.set n v) := by rw [List.map_set]; rfl
def ap {α : Type} (b : Nat) (l m : List α) : Option (List α) := if (l.length + m.length) * b <= 2 ^ 40 then some (l ++ m) else none
theorem c25 {α : Type} {b : Nat} {l m r : List α} (h : ap b l m = some r) : (l.length + m.length) * b <= 2 ^ 40 /\ r = l ++ m := by
 unfold ap at h; split at h
 ·rename_i hc; cases h; exact ⟨hc, rfl⟩
 ·cases h
theorem b8c {α : Type} {b : Nat} {l m : List α} (h : (l.length + m.length) * b <= 2 ^ 40) : ap b l m = some (l ++ m) := by
 unfold ap; rw [if_pos h]
def d5c (sz : Nat) (zs : List Value) (b : Nat) (l c : AV) (h : Heap) [k : K2] : Prop := ∃ r h', eff (.mksl sz zs b (.t 0) (.t 1)) (evT fun i => if i = 0 then l else c) h = some (r, h') /\ k.k r h'
def b8v (sz b : Nat) (s x : AV) (h : Heap) [k : K2] : Prop := ∃ r h', eff (.app sz b (.t 0) (.t 1)) (evT fun i => if i = 0 then s else x) h = some (r, h') /\ k.k r h'
def c8a (sz : Nat) (vs : List AV) (h : Heap) [k : K2] : Prop := (vs.all fun x => b1v x && (cellsOf x).length == sz) = true /\ k.k (.rs h.nx 0 vs.length) (h.new (sz, vs.map cellsOf))
section
variable {O : Orac} {d : Option Nat} {g : Nat} {b0 : Bool} {r : List XO} {K : Slots -> Heap -> Prop} {t : Slots} {h : Heap} {k : AV -> Heap -> Prop}
theorem g7r {sz zs b l c} : b0c O (⟨d, none, .mksl sz zs b l c⟩ :: r) K t h = @iop O (.mksl sz zs b l c) t h ⟨fun v h' => b0c O r K (b0g t d v) h'⟩ := b2b rfl
theorem g8t {sz zs b l c} : b0c O (⟨d, some (g, b0), .mksl sz zs b l c⟩ :: r) K t h = @b1x (t g) b0 ⟨@iop O (.mksl sz zs b l c) (upd t g (B b0)) h ⟨fun v h' => b0c O r K (b0g (upd t g (B b0)) d v) h'⟩⟩ ⟨b0c O r K (b0g (upd t g (B (!b0))) d U) h⟩ ⟨b0c O r K (b0g t d U) h⟩ := b15 rfl
theorem g65 {sz b s x} : b0c O (⟨d, none, .app sz b s x⟩ :: r) K t h = @iop O (.app sz b s x) t h ⟨fun v h' => b0c O r K (b0g t d v) h'⟩ := b2b rfl
theorem g77 {sz b s x} : b0c O (⟨d, some (g, b0), .app sz b s x⟩ :: r) K t h = @b1x (t g) b0 ⟨@iop O (.app sz b s x) (upd t g (B b0)) h ⟨fun v h' => b0c O r K (b0g (upd t g (B b0)) d v) h'⟩⟩ ⟨b0c O r K (b0g (upd t g (B (!b0))) d U) h⟩ ⟨b0c O r K (b0g t d U) h⟩ := b15 rfl
theorem g69 {sz vs} : b0c O (⟨d, none, .bsl sz vs⟩ :: r) K t h = @iop O (.bsl sz vs) t h ⟨fun v h' => b0c O r K (b0g t d v) h'⟩ := b2b rfl
theorem g8b {sz vs} : b0c O (⟨d, some (g, b0), .bsl sz vs⟩ :: r) K t h = @b1x (t g) b0 ⟨@iop O (.bsl sz vs) (upd t g (B b0)) h ⟨fun v h' => b0c O r K (b0g (upd t g (B b0)) d v) h'⟩⟩ ⟨b0c O r K (b0g (upd t g (B (!b0))) d U) h⟩ ⟨b0c O r K (b0g t d U) h⟩ := b15 rfl
theorem g9t {sz zs b l c} : @iop O (.mksl sz zs b l c) t h ⟨k⟩ = @d5c sz zs b (evT t l) (evT t c) h ⟨k⟩ := by
 simp only [iop, op1, d5c, eff, evT, if_true, Nat.one_ne_zero, if_false]
theorem g87 {sz b s x} : @iop O (.app sz b s x) t h ⟨k⟩ = @b8v sz b (evT t s) (evT t x) h ⟨k⟩ := by
 simp only [iop, op1, b8v, eff, evT, if_true, Nat.one_ne_zero, if_false]
theorem g9b {sz vs} : @iop O (.bsl sz vs) t h ⟨k⟩ = @c8a sz (vs.map (evT t)) h ⟨k⟩ := by
 simp only [iop, op1, c8a, eff, List.length_map]
 apply propext; constructor
 ·rintro ⟨r, h', he, hk⟩
  split at he
  ·rename_i hc; cases he; exact ⟨hc, hk⟩
  ·cases he
 ·rintro ⟨hc, hk⟩
  exact ⟨_, _, by rw [if_pos hc], hk⟩
theorem d4g {sz vs} : @c8a sz vs h ⟨k⟩ = @b31 ((vs.all fun x => b1v x && (cellsOf x).length == sz) = true) ⟨k (.rs h.nx 0 vs.length) (h.new (sz, vs.map cellsOf))⟩ := rfl
def b5f (h : Heap) (v : AV) (o : Ob) : Heap := (match v with | .rs id _ _ => h.upd id none | _ => h).new o
theorem c26 {a : Option Addr} {b c : Nat} {o : Ob} : b5f h (.v (.slice a b c)) o = h.new o := rfl
theorem c29 {id lo len : Nat} {o : Ob} : b5f h (.rs id lo len) o = (h.upd id none).new o := rfl
def b2v (h : Heap) (v : AV) (sz : Nat) (rows : List (List AV)) : Prop := (v = .v (.slice none 0 0) /\ rows = []) \/ ∃ id, v = .rs id 0 rows.length /\ h.ob id = some (sz, rows) /\ id < h.nx
def c7c (h : Heap) (v : AV) (sz : Nat) (rows : List (List AV)) : Prop := v = .fs sz rows \/ ∃ id, v = .rs id 0 rows.length /\ h.ob id = some (sz, rows)
def b1y (v : AV) (i : Nat) : Prop := match v with | .rs id _ _ => ¬ id = i | _ => True
theorem b3j {α : Type} {f : α -> List AV} {sz b : Nat} {s x : AV} {l m r : List α} (hs : b2v h s sz (List.map f l)) (hx : c7c h x sz (List.map f m)) (hd : ∀ i, ¬ b1y s i -> b1y x i) (hn : s = .v (.slice none 0 0) -> ¬ m = [])
  (ha : ap b l m = some r) (hk : k (.rs h.nx 0 (List.length r)) (b5f h s (sz, List.map f r))) : @b8v sz b s x h ⟨k⟩ := by
 obtain ⟨hb, rfl⟩ := c25 ha
 rw [List.length_append, List.map_append] at hk
 refine ⟨_, _, ?_, hk⟩
 simp only [eff, evT, if_true, Nat.one_ne_zero, if_false]
 rcases hs with ⟨rfl, hl⟩ | ⟨id, rfl, ho, hlt⟩
 ·have hl' : l = [] := by simpa using hl
  subst hl'
  have hm : ¬ m.length = 0 := fun e => hn rfl (List.length_eq_zero_iff.1 e)
  rcases hx with rfl | ⟨id2, rfl, ho2⟩
  ·simp only [List.length_map, hm, if_false, List.map_nil, List.nil_append, List.length_nil, Nat.zero_add, c26]
   rw [if_pos ⟨trivial, by simpa using hb⟩]
  ·simp only [ho2, bS9, List.length_map, hm, if_false, List.map_nil, List.nil_append, List.length_nil, Nat.zero_add, c26]
   rw [if_pos ⟨trivial, by simp, by simpa using hb⟩]
   simp [List.take_of_length_le]
 ·rcases hx with rfl | ⟨id2, rfl, ho2⟩
  ·simp only [ho, bS9, List.length_map, c29]
   rw [if_pos ⟨trivial, trivial, by simp, hb⟩]
   simp [List.take_of_length_le]
  ·have hne : id ≠ id2 := fun e => hd id (by simp [b1y]) e.symm
   simp only [ho, ho2, bS9, List.length_map, c29]
   rw [if_pos ⟨trivial, trivial, hne, by simp, by simp, hb⟩]
   simp [List.take_of_length_le]
theorem c01 {α : Type} {f : α -> List AV} {sz : Nat} : b2v h (.v (.slice none 0 0)) sz (List.map f []) := .inl ⟨rfl, rfl⟩
theorem b3f {id n sz : Nat} {rows : List (List AV)} (ho : h.ob id = some (sz, rows)) (hl : n = rows.length) (hn : id < h.nx) : b2v h (.rs id 0 n) sz rows := .inr ⟨id, by rw [hl], ho, hn⟩
theorem b5p {id n sz : Nat} {rows : List (List AV)} (ho : h.ob id = some (sz, rows)) (hl : n = rows.length) : c7c h (.rs id 0 n) sz rows := .inr ⟨id, by rw [hl], ho⟩
theorem b6p {sz : Nat} {rows : List (List AV)} : c7c h (.fs sz rows) sz rows := .inl rfl
theorem b5o {s : AV} {id lo n : Nat} (hs : b1y s id) : ∀ i, ¬ b1y s i -> b1y (.rs id lo n) i := fun i hi e => hi (e ▸ hs)
theorem b6o {s : AV} {sz : Nat} {rows : List (List AV)} : ∀ i, ¬ b1y s i -> b1y (.fs sz rows) i := fun _ _ => trivial
theorem b2g {a : Value} {i : Nat} : b1y (.v a) i := trivial
theorem b2h {id lo n i : Nat} (hl : ¬ id = i) : b1y (.rs id lo n) i := hl
theorem b2e {v : AV} {sz : Nat} {rows : List (List AV)} (hv : b2v h v sz rows) {i : Nat} (hi : h.nx <= i) : b1y v i := by
 rcases hv with ⟨rfl, _⟩ | ⟨id, rfl, _, hlt⟩
 ·trivial
 ·exact fun e => by omega
theorem b8e {es : List (List AV)} {i j : Nat} {c : AV} (h : at2 es i j = some c) : ∃ e, es[i]? = some e /\ e[j]? = some c := by
 unfold at2 at h
 cases he : es[i]? with
 | none => simp [he] at h
 | some e => exact ⟨e, rfl, by rw [he] at h; exact h⟩
theorem c0h {α : Type} {f : α -> List AV} {v : AV} {sz : Nat} {l : List α} (hv : b2v h v sz (List.map f l)) (hf : ∀ a, ∀ c ∈ f a, Frz c) (hl : ∀ a, (f a).length = sz) : Fz h v (.fs sz (List.map f l)) := by
 rcases hv with ⟨rfl, hr⟩ | ⟨id, rfl, ho, _⟩
 ·rw [hr]; exact .nil sz
 ·refine .rs id 0 _ sz _ _ ho (by simp) rfl (fun d hd => ?_) (fun i j c d h1 h2 => ?_)
  ·obtain ⟨a, _, rfl⟩ := List.mem_map.1 hd; exact hl a
  ·rw [Nat.zero_add] at h1
   rw [h1] at h2; cases h2
   obtain ⟨e, he, hc⟩ := b8e h1
   obtain ⟨a, _, rfl⟩ := List.mem_map.1 (mG9 he)
   exact .refl _ (hf a _ (mG9 hc))
theorem b5a {α : Type} {f : α -> List AV} {id n sz : Nat} {l : List α} (ho : h.ob id = some (sz, List.map f l)) (hn : n = List.length l) (hf : ∀ a, ∀ c ∈ f a, Frz c) (hl : ∀ a, (f a).length = sz) : Fz h (.rs id 0 n) (.fs sz (List.map f l)) := by
 subst hn
 refine .rs id 0 _ sz _ _ ho (by simp) (by simp) (fun d hd => ?_) (fun i j c d h1 h2 => ?_)
 ·obtain ⟨a, _, rfl⟩ := List.mem_map.1 hd; exact hl a
 ·rw [Nat.zero_add] at h1
  rw [h1] at h2; cases h2
  obtain ⟨e, he, hc⟩ := b8e h1
  obtain ⟨a, _, rfl⟩ := List.mem_map.1 (mG9 he)
  exact .refl _ (hf a _ (mG9 hc))
theorem b6b {xs ys : List AV} (hz : FzL h xs ys) : xs.length = ys.length /\ ∀ (i : Nat) c d, xs[i]? = some c -> ys[i]? = some d -> Fz h c d := by
 induction hz with
 | nil => exact ⟨rfl, fun i c d hc => by simp at hc⟩
 | cons a _ ih =>
  refine ⟨by simp [ih.1], fun i c d hc hd => ?_⟩
  cases i with
  | zero => simp at hc hd; subst hc; subst hd; exact a
  | succ i => simp at hc hd; exact ih.2 i c d hc hd
theorem d27 {xs ys : List AV} (hz : FzL h xs ys) : Fz h (.tup xs) (.tup ys) := .tup _ _ (b6b hz).1 (b6b hz).2
theorem g4y {xs ys : List AV} (hz : FzL h xs ys) : Fz h (.agg xs) (.agg ys) := .agg _ _ (b6b hz).1 (b6b hz).2
theorem g4z {id sz : Nat} {xs ys : List AV} (ho : h.ob id = some (sz, [xs])) (hz : FzL h xs ys) : Fz h (.rp id 0 0) (.fp ys 0) := .rp id 0 0 sz _ _ _ ho rfl (b6b hz).1 (b6b hz).2
theorem c3g {n : Nat} {v r : AV} (ht : t n = v) (hz : Fz h v r) : b35 [.t n] r [] ⟨t, h⟩ := by
 subst ht; exact .inl ⟨rfl, [t n], rfl, hz⟩
theorem b52 {n m : Nat} {v r u s : AV} (ht : t n = v) (hu : t m = u) (hz : Fz h v r) (hz' : Fz h u s) : b35 [.t n, .t m] (.tup [r, s]) [] ⟨t, h⟩ := by
 subst ht; subst hu; exact .inl ⟨rfl, [t n, t m], rfl, d27 (.cons hz (.cons hz' .nil))⟩
theorem b96 {n sz id m : Nat} {cs : List AV} {r : AV} (ht : t n = .rp id 0 0) (ho : h.ob id = some (m, [cs])) (hl : cs.length = sz) (hz : Fz h (.agg cs) r) : b35 [.cell n true sz] r [] ⟨t, h⟩ := by
 refine .inl ⟨rfl, [.agg cs], ?_, hz⟩
 subst hl
 simp [b3g, eff, St.ev, ht, ho]
theorem b8o {n sz id m p : Nat} {cs : List AV} {r u s : AV} (ht : t n = .rp id 0 0) (ho : h.ob id = some (m, [cs])) (hl : cs.length = sz) (hu : t p = u) (hz : Fz h (.agg cs) r) (hz' : Fz h u s) : b35 [.cell n true sz, .t p] (.tup [r, s]) [] ⟨t, h⟩ := by
 refine .inl ⟨rfl, [.agg cs, u], ?_, d27 (.cons hz (.cons hz' .nil))⟩
 subst hl; subst hu
 simp [b3g, eff, St.ev, ht, ho]
theorem d16 {b : XCode} {Q : XExit -> Slots -> Heap -> Prop} {t' : Slots} {h' : Heap} (hg : b5t ⟨t, h⟩ ⟨t', h'⟩) (hw : cw O b Q t' h') : cw O (.seq .ghost b) Q t h := ⟨⟨t', h'⟩, hg, hw⟩
def c76 (h : Heap) (v : AV) : Heap := match v with | .rs id _ _ => h.upd id none | .rp id _ _ => h.upd id none | _ => h
theorem g5l {F : Nat -> Bool} {s : Nat} {y : AV} (hc : b66 (h.only F) (t s) y) : b5t ⟨t, h⟩ ⟨upd t s y, h.but F⟩ := by
 refine ⟨F, rfl, rfl, fun id sz es' ho => ?_, fun j => ?_⟩
 ·have ho' : (if F id then none else h.ob id) = some (sz, es') := ho
  split at ho'
  ·cases ho'
  ·rename_i hf
   exact ⟨by simpa using hf, es', ho', .inl rfl, fun i j d hd => ⟨d, hd, .inl rfl⟩⟩
 ·show b66 _ (t j) (upd t s y j)
  by_cases e : j = s
  ·subst e; rw [d8e]; exact hc
  ·rw [d8c e]; exact .inl rfl
theorem g4r {a : Value} : c76 h (.v a) = h := rfl
theorem g4t {id lo n : Nat} : c76 h (.rs id lo n) = h.upd id none := rfl
theorem g3b {α : Type} {f : α -> List AV} {b : XCode} {Q : XExit -> Slots -> Heap -> Prop} {id sz : Nat} {l : List α} {a : α} {raw : List AV} (F : Nat -> Bool) (ho : h.ob id = some (sz, List.map f l ++ [raw])) (hi : F id = false)
  (hz : FzL (h.only F) raw (f a)) (hf : ∀ a, ∀ c ∈ f a, Frz c) (hl : ∀ a, (f a).length = sz) (hw : cw O b Q t ((h.but F).upd id (some (sz, List.map f (l ++ [a]))))) : cw O (.seq .ghost b) Q t h := by
 refine d16 (t' := t) (h' := (h.but F).upd id (some (sz, List.map f (l ++ [a])))) ⟨F, rfl, rfl, fun j n es' hj => ?_, fun _ => .inl rfl⟩ hw
 have hj' : (if j = id then some (sz, List.map f (l ++ [a])) else (if F j then none else h.ob j)) = some (n, es') := hj
 split at hj'
 ·rename_i e; subst e
  simp only [iE9, Prod.mk.injEq] at hj'
  obtain ⟨rfl, rfl⟩ := hj'
  refine ⟨hi, _, ho, .inr ⟨by simp, fun e he => ?_⟩, fun i k d hd => ?_⟩
  ·obtain ⟨x, _, rfl⟩ := List.mem_map.1 he; exact hl x
  ·rw [List.map_append] at hd
   by_cases hik : i < l.length
   ·refine ⟨d, ?_, .inl rfl⟩
    simp only [at2] at hd ⊢
    rw [List.getElem?_append_left (by simpa using hik)] at hd ⊢
    exact hd
   ·by_cases he : i = l.length
    ·subst he
     have h1 : at2 (List.map f l ++ List.map f [a]) l.length k = (f a)[k]? := by simp [at2]
     have h2 : at2 (List.map f l ++ [raw]) l.length k = raw[k]? := by simp [at2]
     rw [h1] at hd; rw [h2]
     have hlen := (b6b hz).1
     obtain ⟨hk, _⟩ := gS9.1 hd
     have hk' : k < raw.length := by rw [hlen]; exact hk
     exact ⟨raw[k], gG9 hk', .inr ⟨(b6b hz).2 k _ _ (gG9 hk') hd, hf a _ (mG9 hd)⟩⟩
    ·exfalso
     have : at2 (List.map f l ++ List.map f [a]) i k = none := by
      have : (List.map f l ++ List.map f [a])[i]? = none := by rw [List.getElem?_eq_none_iff]; simp; omega
      unfold at2; rw [this]; rfl
     rw [this] at hd; cases hd
 ·split at hj'
  ·cases hj'
  ·rename_i _ hf'
   exact ⟨by simpa using hf', es', hj', .inl rfl, fun i k d hd => ⟨d, hd, .inl rfl⟩⟩
theorem g62 {α : Type} {f : α -> List AV} {sz b id2 : Nat} {s : AV} {l : List α} {r : List α} {a : α} {raw : List AV} (hs : b2v h s sz (List.map f l)) (hx : h.ob id2 = some (sz, [raw])) (hd : b1y s id2)
  (ha : ap b l [a] = some r) (hk : k (.rs h.nx 0 (List.length r)) (b5f h s (sz, List.map f l ++ [raw]))) : @b8v sz b s (.rs id2 0 1) h ⟨k⟩ := by
 obtain ⟨hb, rfl⟩ := c25 ha
 rw [List.length_append] at hk
 refine ⟨_, _, ?_, hk⟩
 simp only [eff, evT, if_true, Nat.one_ne_zero, if_false]
 have hb' : (l.length + 1) * b <= 2 ^ 40 := by simpa using hb
 rcases hs with ⟨rfl, hl⟩ | ⟨id, rfl, ho, hlt⟩
 ·have hl' : l = [] := by simpa using hl
  subst hl'
  simp only [hx, bS9, List.map_nil, List.nil_append, List.length_nil, List.length_cons, Nat.zero_add, c26, Nat.one_ne_zero, if_false]
  rw [if_pos ⟨trivial, by simp, by simpa using hb'⟩]
  simp
 ·have hne : id ≠ id2 := hd
  simp only [ho, hx, bS9, List.length_map, c29]
  rw [if_pos ⟨trivial, trivial, hne, by simp, by simp, hb'⟩]
  simp [List.take_of_length_le]
end
theorem d97 {h : Heap} {v : AV} {o : Ob} : (b5f h v o).nx = nxs h.nx := by cases v <;> rfl
theorem d98 {h : Heap} {v : AV} {o : Ob} {i : Nat} (hi : b1y v i) (hl : i < h.nx) : (b5f h v o).ob i = h.ob i := by
 unfold b5f
 split
 ·rw [c92 (by exact hl), d8d]; exact fun e => hi e.symm
 ·exact c92 hl
theorem d96 {h : Heap} {v : AV} {o : Ob} {i : Nat} (hl : i = h.nx) : (b5f h v o).ob i = some o := by
 unfold b5f
 split
 ·exact c91 hl
 ·exact c91 hl
theorem g4s {h : Heap} {v : AV} : (c76 h v).nx = h.nx := by cases v <;> rfl
attribute [go_sem ↓] g7r g8t g65 g77 g69 g8b g9t g87 g9b d4g d3g
attribute [go_sem] d4g d3g c26 c29 d97 g4r g4t g4s Nat.zero_add j70 j7z
end Go.Nw
namespace Go.Nw
theorem b2q {O l b Q t h} (post : Slots -> Heap -> Prop) (h1 : ∀ K : Slots -> Heap -> Prop, (∀ t h, post t h -> K t h) -> b0c O l K t h) (h2 : ∀ t h, post t h -> cw O b Q t h) : cw O (.seq (.reg l) b) Q t h :=
 g3d post (h1 post fun _ _ h => h) h2
theorem b8m {O l Q t h} (post : Slots -> Heap -> Prop) (h1 : ∀ K : Slots -> Heap -> Prop, (∀ t h, post t h -> K t h) -> b0c O l K t h) (h2 : ∀ t h, post t h -> Q .normal t h) : cw O (.reg l) Q t h :=
 g3e post (h1 post fun _ _ h => h) h2
end Go.Nw
namespace Go.Nw
theorem b44 {h h' : Heap} {v : AV} {sz : Nat} {rows : List (List AV)} (hv : b2v h v sz rows) (hk : ∀ j, ¬ b1y v j -> j < h.nx -> h'.ob j = h.ob j) (hn : h.nx <= h'.nx) : b2v h' v sz rows := by
 rcases hv with ⟨rfl, hr⟩ | ⟨id, rfl, ho, hlt⟩
 ·exact .inl ⟨rfl, hr⟩
 ·exact .inr ⟨id, rfl, by rw [hk id (by simp [b1y]) hlt]; exact ho, by omega⟩
end Go.Nw
namespace Go.Nw
theorem b41 {a b : Nat} (h : ¬ a = b) : ¬ b = a := fun e => h e.symm
theorem b0q {α : Type} {c : Bool} {a b : α} (h : c = true) : (if c then a else b) = a := if_pos h
theorem b0p {α : Type} {c : Bool} {a b : α} (h : c = false) : (if c then a else b) = b := if_neg (by simp [h])
attribute [go_sem] c92 c91 d8d j8s d98 d96 List.length_map Bool.true_or Bool.or_true Bool.false_or Bool.or_false Bool.true_and Bool.and_true Bool.false_and Bool.and_false fT9 List.length_set
end Go.Nw
namespace Go.Nw
theorem c96 {v : AV} {i j : Nat} (hj : ¬ b1y v j) (hi : b1y v i) : ¬ j = i := fun e => hj (e ▸ hi)
end Go.Nw
namespace Go.Nw
end Go.Nw
namespace Go.Nw
def mn (a b : Int) : Int := if b < a then b else a
def mx (a b : Int) : Int := if b > a then b else a
theorem d6k (a b : Int) : mn a b = min a b := by unfold mn; split <;> omega
theorem d6r (a b : Int) : mx a b = max a b := by unfold mx; split <;> omega
def b8z (xs : List AV) [k : K1 AV] : Prop := ∃ r, b4o b6l xs = some r /\ k.k r
def b8y (xs : List AV) [k : K1 AV] : Prop := ∃ r, b4o b6k xs = some r /\ k.k r
section
variable {O : Orac} {d : Option Nat} {g : Nat} {b0 : Bool} {r : List XO} {K : Slots -> Heap -> Prop} {t : Slots} {h : Heap} {k : AV -> Heap -> Prop} {k1 : AV -> Prop}
theorem g7p {xs} : b0c O (⟨d, none, .min xs⟩ :: r) K t h = @iop O (.min xs) t h ⟨fun v h' => b0c O r K (b0g t d v) h'⟩ := b2b rfl
theorem g8r {xs} : b0c O (⟨d, some (g, b0), .min xs⟩ :: r) K t h = @b1x (t g) b0 ⟨@iop O (.min xs) (upd t g (B b0)) h ⟨fun v h' => b0c O r K (b0g (upd t g (B b0)) d v) h'⟩⟩ ⟨b0c O r K (b0g (upd t g (B (!b0))) d U) h⟩ ⟨b0c O r K (b0g t d U) h⟩ := b15 rfl
theorem g7o {xs} : b0c O (⟨d, none, .max xs⟩ :: r) K t h = @iop O (.max xs) t h ⟨fun v h' => b0c O r K (b0g t d v) h'⟩ := b2b rfl
theorem g8q {xs} : b0c O (⟨d, some (g, b0), .max xs⟩ :: r) K t h = @b1x (t g) b0 ⟨@iop O (.max xs) (upd t g (B b0)) h ⟨fun v h' => b0c O r K (b0g (upd t g (B b0)) d v) h'⟩⟩ ⟨b0c O r K (b0g (upd t g (B (!b0))) d U) h⟩ ⟨b0c O r K (b0g t d U) h⟩ := b15 rfl
theorem g9r {xs} : @iop O (.min xs) t h ⟨k⟩ = @b8z (xs.map (evT t)) ⟨fun v => k v h⟩ := by
 simp only [iop, op1, b8z, eff, mE9]
 apply propext; constructor
 ·rintro ⟨r, h', ⟨x, h1, h2⟩, hk⟩; cases h2; exact ⟨_, h1, hk⟩
 ·rintro ⟨r, h1, hk⟩; exact ⟨r, h, ⟨r, h1, rfl⟩, hk⟩
theorem g9q {xs} : @iop O (.max xs) t h ⟨k⟩ = @b8y (xs.map (evT t)) ⟨fun v => k v h⟩ := by
 simp only [iop, op1, b8y, eff, mE9]
 apply propext; constructor
 ·rintro ⟨r, h', ⟨x, h1, h2⟩, hk⟩; cases h2; exact ⟨_, h1, hk⟩
 ·rintro ⟨r, h1, hk⟩; exact ⟨r, h, ⟨r, h1, rfl⟩, hk⟩
theorem d5a {a b : Int} {kd kd'} : @b8z [.v (.int kd a), .v (.int kd' b)] ⟨k1⟩ = k1 (.v (.int kd (mn a b))) := by
 simp [b8z, b4o, b6l, mn]
theorem d48 {a b : Int} {kd kd'} : @b8y [.v (.int kd a), .v (.int kd' b)] ⟨k1⟩ = k1 (.v (.int kd (mx a b))) := by
 simp [b8y, b4o, b6k, mx]
theorem d5b {a b c : Int} {kd kd' kd''} : @b8z [.v (.int kd a), .v (.int kd' b), .v (.int kd'' c)] ⟨k1⟩ = k1 (.v (.int kd (mn (mn a b) c))) := by
 simp [b8z, b4o, b6l, mn]
 exact Iff.rfl
theorem d49 {a b c : Int} {kd kd' kd''} : @b8y [.v (.int kd a), .v (.int kd' b), .v (.int kd'' c)] ⟨k1⟩ = k1 (.v (.int kd (mx (mx a b) c))) := by
 simp [b8y, b4o, b6k, mx]
theorem g7g {agg n o x} : b0c O (⟨d, none, .fld agg n o x⟩ :: r) K t h = @iop O (.fld agg n o x) t h ⟨fun v h' => b0c O r K (b0g t d v) h'⟩ := b2b rfl
theorem g8i {agg n o x} : b0c O (⟨d, some (g, b0), .fld agg n o x⟩ :: r) K t h = @b1x (t g) b0 ⟨@iop O (.fld agg n o x) (upd t g (B b0)) h ⟨fun v h' => b0c O r K (b0g (upd t g (B b0)) d v) h'⟩⟩ ⟨b0c O r K (b0g (upd t g (B (!b0))) d U) h⟩ ⟨b0c O r K (b0g t d U) h⟩ := b15 rfl
def c8e (agg : Bool) (n o : Nat) (x : AV) [k : K1 AV] : Prop := match x with | .agg cs => b4w agg n cs o k.k | _ => False
theorem g9i {agg n o x} : @iop O (.fld agg n o x) t h ⟨k⟩ = @c8e agg n o (evT t x) ⟨fun v => k v h⟩ := by
 simp only [iop, op1, c8e, eff]
 generalize evT t x = y
 cases y with
 | agg cs =>
  simp only [b4w, b39]
  cases agg with
  | true =>
   simp only [if_true]
   apply propext; constructor
   ·rintro ⟨r, h', he, hk⟩; split at he
    ·rename_i ho; cases he; exact ⟨ho, hk⟩
    ·cases he
   ·rintro ⟨h1, h2⟩; exact ⟨_, _, by rw [if_pos h1], h2⟩
  | false =>
   simp only [fT9, if_false, mE9]
   apply propext; constructor
   ·rintro ⟨r, h', ⟨x, h1, h2⟩, hk⟩; cases h2; exact ⟨_, h1, hk⟩
   ·rintro ⟨v, h1, h2⟩; exact ⟨v, h, ⟨v, h1, rfl⟩, h2⟩
 | _ => simp
theorem d4r {agg n o cs} : @c8e agg n o (.agg cs) ⟨k1⟩ = @c0k agg n cs o ⟨k1⟩ := rfl
end
theorem g01 {h : Heap} {F : Nat -> Bool} {j : Nat} (hj : F j = false) : (h.but F).ob j = h.ob j := by simp [Heap.but, hj]
theorem g00 {h : Heap} {F : Nat -> Bool} : (h.but F).nx = h.nx := by simp [Heap.but]
theorem c94 {h : Heap} {F : Nat -> Bool} {j : Nat} (hj : F j = true) : (h.only F).ob j = h.ob j := by simp [Heap.only, hj]
theorem g3a {O : Orac} {b : XCode} {Q : XExit -> Slots -> Heap -> Prop} {t : Slots} {h : Heap} {s : Nat} {v y : AV} (F : Nat -> Bool) (hs : t s = v) (hz : Fz (h.only F) v y) (hf : Frz y)
  (hw : cw O b Q (upd t s y) (h.but F)) : cw O (.seq .ghost b) Q t h := by
 subst hs
 exact d16 (g5l (.inr ⟨hz, hf⟩)) hw
theorem g3c {O : Orac} {Q : XExit -> Slots -> Heap -> Prop} {t : Slots} {h : Heap} (hw : cw O (.seq .ghost .skip) Q t h) : cw O .ghost Q t h := hw
inductive FzR (h : Heap) : List (List AV) -> List (List AV) -> Prop
 | nil : FzR h [] []
 | cons {x y : List AV} {xs ys : List (List AV)} (a : FzL h x y) (b : FzR h xs ys) : FzR h (x :: xs) (y :: ys)
attribute [go_sem ↓] g7p g8r g7o g8q g9r g9q g7g g8i g9i d5a d48 d5b d49 d4r
attribute [go_sem] d5a d48 d5b d49 d4r g00 g01
end Go.Nw
namespace Go.Nw
end Go.Nw
namespace Go.Nw
def sub {α : Type} (l : List α) (a b : Int) : Option (List α) := if 0 <= a /\ a <= b /\ b <= l.length then some ((l.take b.toNat).drop a.toNat) else none
def c8m (n : Nat) (x : AV) (lo hi : Option AV) (h : Heap) [k : K2] : Prop := ∃ (r' : AV) (h' : Heap), ((b2j x).bind fun len =>
  (b4l 0 lo).bind fun l =>
  (b4q len hi).bind fun r =>
  if l <= r then
   match x with
   | .fs sz es => if sz = n then some (.fs sz ((es.take r).drop l), h) else none
   | .rs id lo' _ => (h.ob id).bind fun o => if (l = 0 \/ l < r) /\ o.1 = n then some (.rs id (lo' + l) (r - l), h) else none
   | .v (.slice none 0 0) => some (.v (.slice none 0 0), h)
   | _ => none
  else none) = some (r', h') /\ k.k r' h'
section
variable {O : Orac} {d : Option Nat} {g : Nat} {b0 : Bool} {r : List XO} {K : Slots -> Heap -> Prop} {t : Slots} {h : Heap} {k : AV -> Heap -> Prop}
theorem g7v {n x lo hi} : b0c O (⟨d, none, .slc n x lo hi⟩ :: r) K t h = @iop O (.slc n x lo hi) t h ⟨fun v h' => b0c O r K (b0g t d v) h'⟩ := b2b rfl
theorem g8x {n x lo hi} : b0c O (⟨d, some (g, b0), .slc n x lo hi⟩ :: r) K t h = @b1x (t g) b0 ⟨@iop O (.slc n x lo hi) (upd t g (B b0)) h ⟨fun v h' => b0c O r K (b0g (upd t g (B b0)) d v) h'⟩⟩ ⟨b0c O r K (b0g (upd t g (B (!b0))) d U) h⟩ ⟨b0c O r K (b0g t d U) h⟩ := b15 rfl
theorem g9x {n x lo hi} : @iop O (.slc n x lo hi) t h ⟨k⟩ = @c8m n (evT t x) (lo.map (evT t)) (hi.map (evT t)) h ⟨k⟩ := rfl
end
attribute [go_sem ↓] g7v g8x g9x
attribute [go_sem] Option.map_none
end Go.Nw
namespace Go.Nw
end Go.Nw
namespace Go.Nw
def c7e (k : IntKind) (a b : Int) : Int := k.wrap (BitVec.ofInt k.bits a &&& BitVec.ofInt k.bits b).toNat
def d1l (k : IntKind) (a b : Int) : Int := k.wrap (BitVec.ofInt k.bits a ||| BitVec.ofInt k.bits b).toNat
def d1m (k : IntKind) (a b : Int) : Int := k.wrap (BitVec.ofInt k.bits a ^^^ BitVec.ofInt k.bits b).toNat
def d1j (k : IntKind) (a b : Int) : Int := k.wrap (BitVec.ofInt k.bits a &&& ~~~(BitVec.ofInt k.bits b)).toNat
def d1k (k : IntKind) (a : Int) : Int := k.wrap (BitVec.ofInt k.bits (if k.signed then -1 else k.max) ^^^ BitVec.ofInt k.bits a).toNat
abbrev b5x (a b : Int) : Int := c7e .i64 a b
def c5j (k : IntKind) (a b : Int) : Int := k.wrap (a * 2 ^ (Nat.min b.toNat k.bits))
def d0q (k : IntKind) (a b : Int) : Int := a.fdiv (2 ^ (Nat.min b.toNat k.bits))
def shl (k : IntKind) (a b : Int) : Option Int := if b < 0 then none else some (c5j k a b)
def shr (k : IntKind) (a b : Int) : Option Int := if b < 0 then none else some (d0q k a b)
def quo (k : IntKind) (a b : Int) : Option Int := if b = 0 then none else some (k.wrap (a.tdiv b))
def rem (a b : Int) : Option Int := if b = 0 then none else some (a.tmod b)
theorem j74 {k : IntKind} {a b : Int} (h : 0 <= b) : shl k a b = some (c5j k a b) := by unfold shl; rw [if_neg (by omega)]
theorem d7w {k : IntKind} {a b : Int} (h : 0 <= b) : shr k a b = some (d0q k a b) := by unfold shr; rw [if_neg (by omega)]
section
variable {k : AV -> Prop} {e : EqK} {kd kd' : IntKind} {a b : Int}
theorem d3i : @b1w .and e (.v (.int kd a)) (.v (.int kd b)) ⟨k⟩ = k (.v (.int kd (c7e kd a b))) := b4f (by simp [b26, b3q, c7e])
theorem d33 : @b1w .or e (.v (.int kd a)) (.v (.int kd b)) ⟨k⟩ = k (.v (.int kd (d1l kd a b))) := b4f (by simp [b26, b3q, d1l])
theorem d37 : @b1w .xor e (.v (.int kd a)) (.v (.int kd b)) ⟨k⟩ = k (.v (.int kd (d1m kd a b))) := b4f (by simp [b26, b3q, d1m])
theorem d3l : @b1w .andNot e (.v (.int kd a)) (.v (.int kd b)) ⟨k⟩ = k (.v (.int kd (d1j kd a b))) := b4f (by simp [b26, b3q, d1j])
theorem c3y {r : Int} (h : shl kd a b = some r) : @b1w .shl e (.v (.int kd a)) (.v (.int kd' b)) ⟨k⟩ = k (.v (.int kd r)) := by
 unfold shl at h; split at h
 ·cases h
 ·rename_i hb; cases h
  show b1j _ _ _ _ _ = _
  simp [b1j, b2s, b26, b9g, hb, c5j]
theorem c3z {r : Int} (h : shr kd a b = some r) : @b1w .shr e (.v (.int kd a)) (.v (.int kd' b)) ⟨k⟩ = k (.v (.int kd r)) := by
 unfold shr at h; split at h
 ·cases h
 ·rename_i hb; cases h
  show b1j _ _ _ _ _ = _
  simp [b1j, b2s, b26, b9g, hb, d0q]
theorem d5w : @iun .xor (.v (.int kd a)) ⟨k⟩ = k (.v (.int kd (d1k kd a))) := by
 show unK _ _ _ = _
 simp [unK, b62, d1k]
end
def c8c (kd : IntKind) (x : AV) [k : K1 AV] : Prop := match x with | .v (.int _ n) => k.k (.v (.int kd (kd.wrap n))) | _ => False
section
variable {O : Orac} {d : Option Nat} {g : Nat} {b0 : Bool} {r : List XO} {K : Slots -> Heap -> Prop} {t : Slots} {h : Heap} {k : AV -> Heap -> Prop} {k1 : AV -> Prop}
theorem g7e {kd x} : b0c O (⟨d, none, .cvtI kd x⟩ :: r) K t h = @iop O (.cvtI kd x) t h ⟨fun v h' => b0c O r K (b0g t d v) h'⟩ := b2b rfl
theorem g8g {kd x} : b0c O (⟨d, some (g, b0), .cvtI kd x⟩ :: r) K t h = @b1x (t g) b0 ⟨@iop O (.cvtI kd x) (upd t g (B b0)) h ⟨fun v h' => b0c O r K (b0g (upd t g (B b0)) d v) h'⟩⟩ ⟨b0c O r K (b0g (upd t g (B (!b0))) d U) h⟩ ⟨b0c O r K (b0g t d U) h⟩ := b15 rfl
theorem g9g {kd x} : @iop O (.cvtI kd x) t h ⟨k⟩ = @c8c kd (evT t x) ⟨fun v => k v h⟩ := by
 simp only [iop, op1, c8c, eff]
 generalize evT t x = y
 cases y with
 | v z =>
  cases z with
  | int k' n => exact ex1
  | _ => exact ex0
 | _ => exact ex0
theorem d4n {kd kd' : IntKind} {n : Int} : @c8c kd (.v (.int kd' n)) ⟨k1⟩ = k1 (.v (.int kd (kd.wrap n))) := rfl
end
attribute [go_sem ↓] g7e g8g g9g d4n d3i d33 d37 d3l d5w
attribute [go_sem] d4n d3i d33 d37 d3l d5w
end Go.Nw
namespace Go.Nw
theorem d3o {k : AV -> Prop} {a b c d : Int} : @b1w .eql (.flat [.i, .i]) (.agg [I a, I b]) (.agg [I c, I d]) ⟨k⟩ = k (B (decide (a = c) && decide (b = d))) := by
 show b1j _ _ _ _ _ = _
 by_cases h1 : a = c <;> by_cases h2 : b = d <;> simp [b1j, b2s, b2l, b3i, h1, h2]
theorem d3x {k : AV -> Prop} {a b c d : Int} : @b1w .neq (.flat [.i, .i]) (.agg [I a, I b]) (.agg [I c, I d]) ⟨k⟩ = k (B (!(decide (a = c) && decide (b = d)))) := by
 show b1j _ _ _ _ _ = _
 by_cases h1 : a = c <;> by_cases h2 : b = d <;> simp [b1j, b2s, b2l, b3i, h1, h2]
theorem d3p {k : AV -> Prop} {a b c d x y : Int} : @b1w .eql (.flat [.i, .i, .i]) (.agg [I a, I b, I x]) (.agg [I c, I d, I y]) ⟨k⟩ = k (B (decide (a = c) && decide (b = d) && decide (x = y))) := by
 show b1j _ _ _ _ _ = _
 by_cases h1 : a = c <;> by_cases h2 : b = d <;> by_cases h3 : x = y <;> simp [b1j, b2s, b2l, b3i, h1, h2, h3]
theorem d3y {k : AV -> Prop} {a b c d x y : Int} : @b1w .neq (.flat [.i, .i, .i]) (.agg [I a, I b, I x]) (.agg [I c, I d, I y]) ⟨k⟩ = k (B (!(decide (a = c) && decide (b = d) && decide (x = y)))) := by
 show b1j _ _ _ _ _ = _
 by_cases h1 : a = c <;> by_cases h2 : b = d <;> by_cases h3 : x = y <;> simp [b1j, b2s, b2l, b3i, h1, h2, h3]
theorem d3z {k : AV -> Prop} : @b1w .eql .slice (.v (.slice none 0 0)) (.v (.slice none 0 0)) ⟨k⟩ = k (B true) := by
 show b1j _ _ _ _ _ = _
 simp [b1j, b2s, b2l, b80]
theorem d31 {k : AV -> Prop} : @b1w .neq .slice (.v (.slice none 0 0)) (.v (.slice none 0 0)) ⟨k⟩ = k (B false) := by
 show b1j _ _ _ _ _ = _
 simp [b1j, b2s, b2l, b80]
theorem d30 {k : AV -> Prop} {a b c : Nat} : @b1w .eql .slice (.rs a b c) (.v (.slice none 0 0)) ⟨k⟩ = k (B false) := by
 show b1j _ _ _ _ _ = _
 simp [b1j, b2s, b2l, b80]
theorem d32 {k : AV -> Prop} {a b c : Nat} : @b1w .neq .slice (.rs a b c) (.v (.slice none 0 0)) ⟨k⟩ = k (B true) := by
 show b1j _ _ _ _ _ = _
 simp [b1j, b2s, b2l, b80]
attribute [go_sem ↓] d3o d3x d3p d3y d3z d31 d30 d32
attribute [go_sem] d3o d3x d3p d3y d3z d31 d30 d32
attribute [go_sem] beq_self_eq_true eq_self
theorem nxa {a b : Nat} : (nxs a = nxs b) = (a = b) := by simp [nxs]
theorem nxb {a b : Nat} : (nxs a < nxs b) = (a < b) := by simp [nxs]
theorem j3s {n : Nat} : (n < nxs n) = True := by simp only [nxs, eq_iff_iff, iff_true]; omega
theorem j38 {i n : Nat} (h : i < n) : (i < nxs n) = True := by simp only [nxs, eq_iff_iff, iff_true]; omega
theorem j1w {n : Nat} : (n = nxs n) = False := by simp only [nxs, eq_iff_iff, iff_false]; omega
theorem j2c {n : Nat} : (nxs n = n) = False := by simp only [nxs, eq_iff_iff, iff_false]; omega
theorem j2t {i n : Nat} (h : i < n) : (i = nxs n) = False := by simp only [nxs, eq_iff_iff, iff_false]; omega
theorem j3a {i n : Nat} (h : i < n) : (nxs n = i) = False := by simp only [nxs, eq_iff_iff, iff_false]; omega
theorem j30 {n : Nat} : (n < nxs (nxs n)) = True := by simp only [nxs, eq_iff_iff, iff_true]; omega
theorem j4g {i n : Nat} (h : i < n) : (i < nxs (nxs n)) = True := by simp only [nxs, eq_iff_iff, iff_true]; omega
theorem j14 {n : Nat} : (n = nxs (nxs n)) = False := by simp only [nxs, eq_iff_iff, iff_false]; omega
theorem j2k {n : Nat} : (nxs (nxs n) = n) = False := by simp only [nxs, eq_iff_iff, iff_false]; omega
theorem j21 {i n : Nat} (h : i < n) : (i = nxs (nxs n)) = False := by simp only [nxs, eq_iff_iff, iff_false]; omega
theorem j3i {i n : Nat} (h : i < n) : (nxs (nxs n) = i) = False := by simp only [nxs, eq_iff_iff, iff_false]; omega
theorem j31 {n : Nat} : (n < nxs (nxs (nxs n))) = True := by simp only [nxs, eq_iff_iff, iff_true]; omega
theorem j4h {i n : Nat} (h : i < n) : (i < nxs (nxs (nxs n))) = True := by simp only [nxs, eq_iff_iff, iff_true]; omega
theorem j15 {n : Nat} : (n = nxs (nxs (nxs n))) = False := by simp only [nxs, eq_iff_iff, iff_false]; omega
theorem j2l {n : Nat} : (nxs (nxs (nxs n)) = n) = False := by simp only [nxs, eq_iff_iff, iff_false]; omega
theorem j22 {i n : Nat} (h : i < n) : (i = nxs (nxs (nxs n))) = False := by simp only [nxs, eq_iff_iff, iff_false]; omega
theorem j3j {i n : Nat} (h : i < n) : (nxs (nxs (nxs n)) = i) = False := by simp only [nxs, eq_iff_iff, iff_false]; omega
theorem j32 {n : Nat} : (n < nxs (nxs (nxs (nxs n)))) = True := by simp only [nxs, eq_iff_iff, iff_true]; omega
theorem j4i {i n : Nat} (h : i < n) : (i < nxs (nxs (nxs (nxs n)))) = True := by simp only [nxs, eq_iff_iff, iff_true]; omega
theorem j16 {n : Nat} : (n = nxs (nxs (nxs (nxs n)))) = False := by simp only [nxs, eq_iff_iff, iff_false]; omega
theorem j2m {n : Nat} : (nxs (nxs (nxs (nxs n))) = n) = False := by simp only [nxs, eq_iff_iff, iff_false]; omega
theorem j23 {i n : Nat} (h : i < n) : (i = nxs (nxs (nxs (nxs n)))) = False := by simp only [nxs, eq_iff_iff, iff_false]; omega
theorem j3k {i n : Nat} (h : i < n) : (nxs (nxs (nxs (nxs n))) = i) = False := by simp only [nxs, eq_iff_iff, iff_false]; omega
theorem j33 {n : Nat} : (n < nxs (nxs (nxs (nxs (nxs n))))) = True := by simp only [nxs, eq_iff_iff, iff_true]; omega
theorem j4j {i n : Nat} (h : i < n) : (i < nxs (nxs (nxs (nxs (nxs n))))) = True := by simp only [nxs, eq_iff_iff, iff_true]; omega
theorem j17 {n : Nat} : (n = nxs (nxs (nxs (nxs (nxs n))))) = False := by simp only [nxs, eq_iff_iff, iff_false]; omega
theorem j2n {n : Nat} : (nxs (nxs (nxs (nxs (nxs n)))) = n) = False := by simp only [nxs, eq_iff_iff, iff_false]; omega
theorem j24 {i n : Nat} (h : i < n) : (i = nxs (nxs (nxs (nxs (nxs n))))) = False := by simp only [nxs, eq_iff_iff, iff_false]; omega
theorem j3l {i n : Nat} (h : i < n) : (nxs (nxs (nxs (nxs (nxs n)))) = i) = False := by simp only [nxs, eq_iff_iff, iff_false]; omega
theorem j34 {n : Nat} : (n < nxs (nxs (nxs (nxs (nxs (nxs n)))))) = True := by simp only [nxs, eq_iff_iff, iff_true]; omega
theorem j4k {i n : Nat} (h : i < n) : (i < nxs (nxs (nxs (nxs (nxs (nxs n)))))) = True := by simp only [nxs, eq_iff_iff, iff_true]; omega
theorem j18 {n : Nat} : (n = nxs (nxs (nxs (nxs (nxs (nxs n)))))) = False := by simp only [nxs, eq_iff_iff, iff_false]; omega
theorem j2o {n : Nat} : (nxs (nxs (nxs (nxs (nxs (nxs n))))) = n) = False := by simp only [nxs, eq_iff_iff, iff_false]; omega
theorem j25 {i n : Nat} (h : i < n) : (i = nxs (nxs (nxs (nxs (nxs (nxs n)))))) = False := by simp only [nxs, eq_iff_iff, iff_false]; omega
theorem j3m {i n : Nat} (h : i < n) : (nxs (nxs (nxs (nxs (nxs (nxs n))))) = i) = False := by simp only [nxs, eq_iff_iff, iff_false]; omega
theorem j35 {n : Nat} : (n < nxs (nxs (nxs (nxs (nxs (nxs (nxs n))))))) = True := by simp only [nxs, eq_iff_iff, iff_true]; omega
theorem j4l {i n : Nat} (h : i < n) : (i < nxs (nxs (nxs (nxs (nxs (nxs (nxs n))))))) = True := by simp only [nxs, eq_iff_iff, iff_true]; omega
theorem j19 {n : Nat} : (n = nxs (nxs (nxs (nxs (nxs (nxs (nxs n))))))) = False := by simp only [nxs, eq_iff_iff, iff_false]; omega
theorem j2p {n : Nat} : (nxs (nxs (nxs (nxs (nxs (nxs (nxs n)))))) = n) = False := by simp only [nxs, eq_iff_iff, iff_false]; omega
theorem j26 {i n : Nat} (h : i < n) : (i = nxs (nxs (nxs (nxs (nxs (nxs (nxs n))))))) = False := by simp only [nxs, eq_iff_iff, iff_false]; omega
theorem j3n {i n : Nat} (h : i < n) : (nxs (nxs (nxs (nxs (nxs (nxs (nxs n)))))) = i) = False := by simp only [nxs, eq_iff_iff, iff_false]; omega
theorem j36 {n : Nat} : (n < nxs (nxs (nxs (nxs (nxs (nxs (nxs (nxs n)))))))) = True := by simp only [nxs, eq_iff_iff, iff_true]; omega
theorem j4m {i n : Nat} (h : i < n) : (i < nxs (nxs (nxs (nxs (nxs (nxs (nxs (nxs n)))))))) = True := by simp only [nxs, eq_iff_iff, iff_true]; omega
theorem j2a {n : Nat} : (n = nxs (nxs (nxs (nxs (nxs (nxs (nxs (nxs n)))))))) = False := by simp only [nxs, eq_iff_iff, iff_false]; omega
theorem j2q {n : Nat} : (nxs (nxs (nxs (nxs (nxs (nxs (nxs (nxs n))))))) = n) = False := by simp only [nxs, eq_iff_iff, iff_false]; omega
theorem j27 {i n : Nat} (h : i < n) : (i = nxs (nxs (nxs (nxs (nxs (nxs (nxs (nxs n)))))))) = False := by simp only [nxs, eq_iff_iff, iff_false]; omega
theorem j3o {i n : Nat} (h : i < n) : (nxs (nxs (nxs (nxs (nxs (nxs (nxs (nxs n))))))) = i) = False := by simp only [nxs, eq_iff_iff, iff_false]; omega
theorem j37 {n : Nat} : (n < nxs (nxs (nxs (nxs (nxs (nxs (nxs (nxs (nxs n))))))))) = True := by simp only [nxs, eq_iff_iff, iff_true]; omega
theorem j4n {i n : Nat} (h : i < n) : (i < nxs (nxs (nxs (nxs (nxs (nxs (nxs (nxs (nxs n))))))))) = True := by simp only [nxs, eq_iff_iff, iff_true]; omega
theorem j2b {n : Nat} : (n = nxs (nxs (nxs (nxs (nxs (nxs (nxs (nxs (nxs n))))))))) = False := by simp only [nxs, eq_iff_iff, iff_false]; omega
theorem j2r {n : Nat} : (nxs (nxs (nxs (nxs (nxs (nxs (nxs (nxs (nxs n)))))))) = n) = False := by simp only [nxs, eq_iff_iff, iff_false]; omega
theorem j28 {i n : Nat} (h : i < n) : (i = nxs (nxs (nxs (nxs (nxs (nxs (nxs (nxs (nxs n))))))))) = False := by simp only [nxs, eq_iff_iff, iff_false]; omega
theorem j3p {i n : Nat} (h : i < n) : (nxs (nxs (nxs (nxs (nxs (nxs (nxs (nxs (nxs n)))))))) = i) = False := by simp only [nxs, eq_iff_iff, iff_false]; omega
theorem j3t {n : Nat} : (n < nxs (nxs (nxs (nxs (nxs (nxs (nxs (nxs (nxs (nxs n)))))))))) = True := by simp only [nxs, eq_iff_iff, iff_true]; omega
theorem j39 {i n : Nat} (h : i < n) : (i < nxs (nxs (nxs (nxs (nxs (nxs (nxs (nxs (nxs (nxs n)))))))))) = True := by simp only [nxs, eq_iff_iff, iff_true]; omega
theorem j1x {n : Nat} : (n = nxs (nxs (nxs (nxs (nxs (nxs (nxs (nxs (nxs (nxs n)))))))))) = False := by simp only [nxs, eq_iff_iff, iff_false]; omega
theorem j2d {n : Nat} : (nxs (nxs (nxs (nxs (nxs (nxs (nxs (nxs (nxs (nxs n))))))))) = n) = False := by simp only [nxs, eq_iff_iff, iff_false]; omega
theorem j2u {i n : Nat} (h : i < n) : (i = nxs (nxs (nxs (nxs (nxs (nxs (nxs (nxs (nxs (nxs n)))))))))) = False := by simp only [nxs, eq_iff_iff, iff_false]; omega
theorem j3b {i n : Nat} (h : i < n) : (nxs (nxs (nxs (nxs (nxs (nxs (nxs (nxs (nxs (nxs n))))))))) = i) = False := by simp only [nxs, eq_iff_iff, iff_false]; omega
theorem j3u {n : Nat} : (n < nxs (nxs (nxs (nxs (nxs (nxs (nxs (nxs (nxs (nxs (nxs n))))))))))) = True := by simp only [nxs, eq_iff_iff, iff_true]; omega
theorem j4a {i n : Nat} (h : i < n) : (i < nxs (nxs (nxs (nxs (nxs (nxs (nxs (nxs (nxs (nxs (nxs n))))))))))) = True := by simp only [nxs, eq_iff_iff, iff_true]; omega
theorem j1y {n : Nat} : (n = nxs (nxs (nxs (nxs (nxs (nxs (nxs (nxs (nxs (nxs (nxs n))))))))))) = False := by simp only [nxs, eq_iff_iff, iff_false]; omega
theorem j2e {n : Nat} : (nxs (nxs (nxs (nxs (nxs (nxs (nxs (nxs (nxs (nxs (nxs n)))))))))) = n) = False := by simp only [nxs, eq_iff_iff, iff_false]; omega
theorem j2v {i n : Nat} (h : i < n) : (i = nxs (nxs (nxs (nxs (nxs (nxs (nxs (nxs (nxs (nxs (nxs n))))))))))) = False := by simp only [nxs, eq_iff_iff, iff_false]; omega
theorem j3c {i n : Nat} (h : i < n) : (nxs (nxs (nxs (nxs (nxs (nxs (nxs (nxs (nxs (nxs (nxs n)))))))))) = i) = False := by simp only [nxs, eq_iff_iff, iff_false]; omega
theorem j3v {n : Nat} : (n < nxs (nxs (nxs (nxs (nxs (nxs (nxs (nxs (nxs (nxs (nxs (nxs n)))))))))))) = True := by simp only [nxs, eq_iff_iff, iff_true]; omega
theorem j4b {i n : Nat} (h : i < n) : (i < nxs (nxs (nxs (nxs (nxs (nxs (nxs (nxs (nxs (nxs (nxs (nxs n)))))))))))) = True := by simp only [nxs, eq_iff_iff, iff_true]; omega
theorem j1z {n : Nat} : (n = nxs (nxs (nxs (nxs (nxs (nxs (nxs (nxs (nxs (nxs (nxs (nxs n)))))))))))) = False := by simp only [nxs, eq_iff_iff, iff_false]; omega
theorem j2f {n : Nat} : (nxs (nxs (nxs (nxs (nxs (nxs (nxs (nxs (nxs (nxs (nxs (nxs n))))))))))) = n) = False := by simp only [nxs, eq_iff_iff, iff_false]; omega
theorem j2w {i n : Nat} (h : i < n) : (i = nxs (nxs (nxs (nxs (nxs (nxs (nxs (nxs (nxs (nxs (nxs (nxs n)))))))))))) = False := by simp only [nxs, eq_iff_iff, iff_false]; omega
theorem j3d {i n : Nat} (h : i < n) : (nxs (nxs (nxs (nxs (nxs (nxs (nxs (nxs (nxs (nxs (nxs (nxs n))))))))))) = i) = False := by simp only [nxs, eq_iff_iff, iff_false]; omega
theorem j3w {n : Nat} : (n < nxs (nxs (nxs (nxs (nxs (nxs (nxs (nxs (nxs (nxs (nxs (nxs (nxs n))))))))))))) = True := by simp only [nxs, eq_iff_iff, iff_true]; omega
theorem j4c {i n : Nat} (h : i < n) : (i < nxs (nxs (nxs (nxs (nxs (nxs (nxs (nxs (nxs (nxs (nxs (nxs (nxs n))))))))))))) = True := by simp only [nxs, eq_iff_iff, iff_true]; omega
theorem j10 {n : Nat} : (n = nxs (nxs (nxs (nxs (nxs (nxs (nxs (nxs (nxs (nxs (nxs (nxs (nxs n))))))))))))) = False := by simp only [nxs, eq_iff_iff, iff_false]; omega
theorem j2g {n : Nat} : (nxs (nxs (nxs (nxs (nxs (nxs (nxs (nxs (nxs (nxs (nxs (nxs (nxs n)))))))))))) = n) = False := by simp only [nxs, eq_iff_iff, iff_false]; omega
theorem j2x {i n : Nat} (h : i < n) : (i = nxs (nxs (nxs (nxs (nxs (nxs (nxs (nxs (nxs (nxs (nxs (nxs (nxs n))))))))))))) = False := by simp only [nxs, eq_iff_iff, iff_false]; omega
theorem j3e {i n : Nat} (h : i < n) : (nxs (nxs (nxs (nxs (nxs (nxs (nxs (nxs (nxs (nxs (nxs (nxs (nxs n)))))))))))) = i) = False := by simp only [nxs, eq_iff_iff, iff_false]; omega
theorem j3x {n : Nat} : (n < nxs (nxs (nxs (nxs (nxs (nxs (nxs (nxs (nxs (nxs (nxs (nxs (nxs (nxs n)))))))))))))) = True := by simp only [nxs, eq_iff_iff, iff_true]; omega
theorem j4d {i n : Nat} (h : i < n) : (i < nxs (nxs (nxs (nxs (nxs (nxs (nxs (nxs (nxs (nxs (nxs (nxs (nxs (nxs n)))))))))))))) = True := by simp only [nxs, eq_iff_iff, iff_true]; omega
theorem j11 {n : Nat} : (n = nxs (nxs (nxs (nxs (nxs (nxs (nxs (nxs (nxs (nxs (nxs (nxs (nxs (nxs n)))))))))))))) = False := by simp only [nxs, eq_iff_iff, iff_false]; omega
theorem j2h {n : Nat} : (nxs (nxs (nxs (nxs (nxs (nxs (nxs (nxs (nxs (nxs (nxs (nxs (nxs (nxs n))))))))))))) = n) = False := by simp only [nxs, eq_iff_iff, iff_false]; omega
theorem j2y {i n : Nat} (h : i < n) : (i = nxs (nxs (nxs (nxs (nxs (nxs (nxs (nxs (nxs (nxs (nxs (nxs (nxs (nxs n)))))))))))))) = False := by simp only [nxs, eq_iff_iff, iff_false]; omega
theorem j3f {i n : Nat} (h : i < n) : (nxs (nxs (nxs (nxs (nxs (nxs (nxs (nxs (nxs (nxs (nxs (nxs (nxs (nxs n))))))))))))) = i) = False := by simp only [nxs, eq_iff_iff, iff_false]; omega
theorem j3y {n : Nat} : (n < nxs (nxs (nxs (nxs (nxs (nxs (nxs (nxs (nxs (nxs (nxs (nxs (nxs (nxs (nxs n))))))))))))))) = True := by simp only [nxs, eq_iff_iff, iff_true]; omega
theorem j4e {i n : Nat} (h : i < n) : (i < nxs (nxs (nxs (nxs (nxs (nxs (nxs (nxs (nxs (nxs (nxs (nxs (nxs (nxs (nxs n))))))))))))))) = True := by simp only [nxs, eq_iff_iff, iff_true]; omega
theorem j12 {n : Nat} : (n = nxs (nxs (nxs (nxs (nxs (nxs (nxs (nxs (nxs (nxs (nxs (nxs (nxs (nxs (nxs n))))))))))))))) = False := by simp only [nxs, eq_iff_iff, iff_false]; omega
theorem j2i {n : Nat} : (nxs (nxs (nxs (nxs (nxs (nxs (nxs (nxs (nxs (nxs (nxs (nxs (nxs (nxs (nxs n)))))))))))))) = n) = False := by simp only [nxs, eq_iff_iff, iff_false]; omega
theorem j2z {i n : Nat} (h : i < n) : (i = nxs (nxs (nxs (nxs (nxs (nxs (nxs (nxs (nxs (nxs (nxs (nxs (nxs (nxs (nxs n))))))))))))))) = False := by simp only [nxs, eq_iff_iff, iff_false]; omega
theorem j3g {i n : Nat} (h : i < n) : (nxs (nxs (nxs (nxs (nxs (nxs (nxs (nxs (nxs (nxs (nxs (nxs (nxs (nxs (nxs n)))))))))))))) = i) = False := by simp only [nxs, eq_iff_iff, iff_false]; omega
theorem j3z {n : Nat} : (n < nxs (nxs (nxs (nxs (nxs (nxs (nxs (nxs (nxs (nxs (nxs (nxs (nxs (nxs (nxs (nxs n)))))))))))))))) = True := by simp only [nxs, eq_iff_iff, iff_true]; omega
theorem j4f {i n : Nat} (h : i < n) : (i < nxs (nxs (nxs (nxs (nxs (nxs (nxs (nxs (nxs (nxs (nxs (nxs (nxs (nxs (nxs (nxs n)))))))))))))))) = True := by simp only [nxs, eq_iff_iff, iff_true]; omega
theorem j13 {n : Nat} : (n = nxs (nxs (nxs (nxs (nxs (nxs (nxs (nxs (nxs (nxs (nxs (nxs (nxs (nxs (nxs (nxs n)))))))))))))))) = False := by simp only [nxs, eq_iff_iff, iff_false]; omega
theorem j2j {n : Nat} : (nxs (nxs (nxs (nxs (nxs (nxs (nxs (nxs (nxs (nxs (nxs (nxs (nxs (nxs (nxs (nxs n))))))))))))))) = n) = False := by simp only [nxs, eq_iff_iff, iff_false]; omega
theorem j20 {i n : Nat} (h : i < n) : (i = nxs (nxs (nxs (nxs (nxs (nxs (nxs (nxs (nxs (nxs (nxs (nxs (nxs (nxs (nxs (nxs n)))))))))))))))) = False := by simp only [nxs, eq_iff_iff, iff_false]; omega
theorem j3h {i n : Nat} (h : i < n) : (nxs (nxs (nxs (nxs (nxs (nxs (nxs (nxs (nxs (nxs (nxs (nxs (nxs (nxs (nxs (nxs n))))))))))))))) = i) = False := by simp only [nxs, eq_iff_iff, iff_false]; omega
theorem j2s {i : Nat} {h : Heap} (hl : i < h.nx) : (i = h.nx) = False := by simp only [eq_iff_iff, iff_false]; omega
theorem j29 {i : Nat} {h : Heap} (hl : i < h.nx) : (h.nx = i) = False := by simp only [eq_iff_iff, iff_false]; omega
attribute [go_sem] nxa nxb j3s j38 j1w j2c j2t j3a j30 j4g j14 j2k j21 j3i j31 j4h j15 j2l j22 j3j j32 j4i j16 j2m j23 j3k j33 j4j j17 j2n j24 j3l j34 j4k j18 j2o j25 j3m j35 j4l j19 j2p j26 j3n j36 j4m j2a j2q j27 j3o j37 j4n j2b j2r j28 j3p j3t j39 j1x j2d j2u j3b j3u j4a j1y j2e j2v j3c j3v j4b j1z j2f j2w j3d j3w j4c j10 j2g j2x j3e j3x j4d j11 j2h j2y j3f j3y j4e j12 j2i j2z j3g j3z j4f j13 j2j j20 j3h j2s j29
end Go.Nw
