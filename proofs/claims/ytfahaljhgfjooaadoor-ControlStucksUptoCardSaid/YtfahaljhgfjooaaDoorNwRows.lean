/- Rows of one's own: slices whose elements are slices of one's own, written in place. -/
import Derived.Test.YtfahaljhgfjooaaDoorNwOwn
set_option linter.all false
namespace Go.Nw
def eW (w : AV) : List AV := [w]
theorem o2u (x : AV) : (eW x).length = 1 := rfl
theorem l3h {l : List AV} {n : Nat} {v : AV} : (List.map eW l).set n [v] = List.map eW (l.set n v) := by rw [List.map_set]; rfl
attribute [go_sem] eW l3h
abbrev nilS : AV := .v (.slice none 0 0)
def b2c (v : AV) (hs : List AV) (k : Nat) : Prop := b0s v k /\ ∀ w ∈ hs, b0s w k
structure RR {α : Type} (h : Heap) (v : AV) (hs : List AV) (sz : Nat) (f : α -> List AV) (rows : List (List α)) : Prop where
 top : b1o h v 1 (List.map eW hs)
 len : hs.length = rows.length
 row : ∀ (i : Nat) w r, hs[i]? = some w -> rows[i]? = some r -> b1o h w sz (List.map f r)
 off : ∀ (i : Nat) w, hs[i]? = some w -> ∀ k, ¬ b0s v k -> b0s w k
 apart : ∀ (i j : Nat) w u, i ≠ j -> hs[i]? = some w -> hs[j]? = some u -> ∀ k, ¬ b0s w k -> b0s u k
section
variable {α : Type} {h h' : Heap} {v w : AV} {hs : List AV} {sz : Nat} {f : α -> List AV} {rows : List (List α)} {i : Int} {x : List α}
theorem o2z {k : Nat} (hk : b2c v hs k) : b0s v k := hk.1
theorem l2a {k : Nat} (hk : b2c v hs k) (hw : get hs i = some w) : b0s w k := hk.2 w (List.mem_of_getElem? (b4d hw))
theorem o2x {k ir lo n : Nat} (hk : b2c v hs k) (hw : get hs i = some (.rs ir lo n)) : ¬ ir = k := l2a hk hw
theorem o2y {k iq lo n : Nat} (hk : b2c (.rs iq lo n) hs k) : ¬ iq = k := hk.1
theorem o22 {k : Nat} : b2c nilS [] k := ⟨trivial, fun _ h => by simp at h⟩
theorem l2b {k : Nat} (h1 : b0s v k) (h2 : ∀ (i : Nat) w, hs[i]? = some w -> b0s w k) : b2c v hs k := ⟨h1, fun w hw => by
 obtain ⟨i, hi, rfl⟩ := List.getElem_of_mem hw
 exact h2 i _ (List.getElem?_eq_getElem hi)⟩
theorem d95 {k : Nat} (hk : ¬ b2c v hs k) : ¬ b0s v k \/ ∃ (i : Nat) (w : AV), hs[i]? = some w /\ ¬ b0s w k := by
 by_cases h1 : b0s v k
 ·refine .inr (Classical.byContradiction fun hn => hk (l2b h1 fun i w hw => Classical.byContradiction fun h2 => hn ⟨i, w, hw, h2⟩))
 ·exact .inl h1
theorem c6f {rows : List (List AV)} (hv : b1o h v sz rows) {k : Nat} (hk : ¬ b0s v k) : k < h.nx := by
 rcases hv with ⟨rfl, _⟩ | ⟨id, rfl, _, hlt⟩
 ·exact absurd trivial hk
 ·have : id = k := by simpa [b0s] using hk
  omega
theorem l2p (R : RR h v hs sz f rows) {k : Nat} (hk : ¬ b2c v hs k) : k < h.nx := by
 rcases d95 hk with h1 | ⟨i, w, hw, h1⟩
 ·exact c6f R.top h1
 ·have hi : i < rows.length := by rw [<- R.len]; exact (List.getElem?_eq_some_iff.1 hw).1
  exact c6f (R.row i w _ hw (List.getElem?_eq_getElem hi)) h1
theorem l2n (R : RR h v hs sz f rows) {k : Nat} (hk : h.nx <= k) : b2c v hs k := Classical.byContradiction fun hn => by have := l2p R hn; omega
theorem o3f {u : AV} {us : List AV} (hd : ∀ j, ¬ b2c u us j -> b2c v hs j) : ∀ j, ¬ b2c v hs j -> b2c u us j := fun j hj => Classical.byContradiction fun hn => hj (hd j hn)
theorem o2w {u : AV} (hd : ∀ j, ¬ b0s u j -> b2c v hs j) : ∀ j, ¬ b2c v hs j -> b0s u j := fun j hj => Classical.byContradiction fun hn => hj (hd j hn)
theorem o3a {k j : Nat} (hj : ¬ b2c v hs j) (hk : b2c v hs k) : ¬ j = k := fun e => hj (e ▸ hk)
theorem o3b : RR h nilS [] sz f [] := ⟨.inl ⟨rfl, rfl⟩, rfl, fun i w r hw => by simp at hw, fun i w hw => by simp at hw, fun i j w u _ hw => by simp at hw⟩
theorem l2o (R : RR h v hs sz f rows) (hk : ∀ j, ¬ b2c v hs j -> j < h.nx -> h'.ob j = h.ob j) (hn : h.nx <= h'.nx) : RR h' v hs sz f rows :=
 ⟨b24 R.top (fun j hj hl => hk j (fun hh => hj hh.1) hl) hn, R.len,
  fun i w r hw hr => b24 (R.row i w r hw hr) (fun j hj hl => hk j (fun hh => hj (hh.2 w (List.mem_of_getElem? hw))) hl) hn, R.off, R.apart⟩
theorem o3e (R : RR h v hs sz f rows) (hx : get rows i = some x) : ∃ w, get hs i = some w /\ b1o h w sz (List.map f x) := by
 have h0 := b06 hx
 have h1 := b4d hx
 have hlt : i.toNat < hs.length := by rw [R.len]; exact (List.getElem?_eq_some_iff.1 h1).1
 exact ⟨hs[i.toNat], by simp [get, h0, hlt], R.row _ _ _ (List.getElem?_eq_getElem hlt) h1⟩
theorem o24 (R : RR h v hs sz f rows) (hw : get hs i = some w) (hx : get rows i = some x) : b1o h w sz (List.map f x) := R.row _ _ _ (b4d hw) (b4d hx)
theorem o3g (R : RR h v hs sz f rows) (hx : get rows i = some x) : ∃ iq, v = .rs iq 0 (List.length rows) /\ h.ob iq = some (1, List.map eW hs) /\ iq < h.nx := by
 have hlt := b07 hx
 have := b06 hx
 rcases R.top with ⟨_, h1⟩ | ⟨iq, h1, h2, h3⟩
 ·have : hs = [] := by simpa using h1
  have := R.len; simp_all; omega
 ·exact ⟨iq, by rw [h1]; simp [R.len], h2, h3⟩
theorem o3h {iq ir lo n m lo' : Nat} (R : RR h (.rs iq lo n) hs sz f rows) (hw : get hs i = some (.rs ir lo' m)) : ¬ ir = iq := by
 have := R.off _ _ (b4d hw) iq (by simp [b0s])
 simpa [b0s] using this
theorem o28 {k : Int -> Prop} (R : RR h v hs sz f rows) : @b9x v ⟨k⟩ = k (List.length rows : Int) := by
 rcases R.top with ⟨rfl, h1⟩ | ⟨iq, rfl, h2, h3⟩
 ·have : hs = [] := by simpa using h1
  have := R.len
  have e : rows.length = 0 := by simp_all
  rw [c5s, e]; rfl
 ·rw [c5t, List.length_map, R.len]
theorem l1b {α : Type} {f : α -> List AV} {l : List α} {k : Int -> Prop} (hv : b1o h v sz (List.map f l)) : @b9x v ⟨k⟩ = k (List.length l : Int) := by
 rcases hv with ⟨rfl, h1⟩ | ⟨iq, rfl, h2, h3⟩
 ·have e : l = [] := by simpa using h1
  subst e; rw [c5s]; rfl
 ·rw [c5t, List.length_map]
theorem o3i {ir n : Nat} {y : List α} (R : RR h v hs sz f rows) (hx : get rows i = some x) (hw : get hs i = some (.rs ir 0 n)) (ho : h'.ob ir = some (sz, List.map f y)) (hl : y.length = x.length)
  (hk : ∀ j, ¬ b2c v hs j -> ¬ j = ir -> j < h.nx -> h'.ob j = h.ob j) (hn : h.nx <= h'.nx) : RR h' v hs sz f (List.set rows (Int.toNat i) y) := by
 have hwi := b4d hw
 have hxi := b4d hx
 have hrow := R.row _ _ _ hwi hxi
 have hirlt : ir < h.nx := c6f hrow (by simp [b0s])
 refine ⟨b24 R.top (fun j hj hlt => hk j (fun hh => hj hh.1) (fun e => ?_) hlt) hn, by simp [R.len], fun k u r hu hr => ?_, R.off, R.apart⟩
 ·have := R.off _ _ hwi j hj
  rw [e] at this; simp [b0s] at this
 ·by_cases e : k = i.toNat
  ·subst e
   rw [hwi] at hu; cases hu
   have hlt : i.toNat < rows.length := (List.getElem?_eq_some_iff.1 hxi).1
   rw [List.getElem?_set_self hlt] at hr; cases hr
   rcases hrow with ⟨h1, _⟩ | ⟨id, h1, h2, h3⟩
   ·cases h1
   ·cases h1
    exact .inr ⟨ir, by simp [hl], ho, by omega⟩
  ·rw [List.getElem?_set_ne (by omega)] at hr
   refine b24 (R.row k u r hu hr) (fun j hj hlt => hk j (fun hh => hj (hh.2 u (List.mem_of_getElem? hu))) (fun e2 => ?_) hlt) hn
   have := R.apart k i.toNat u _ e hu hwi j hj
   rw [e2] at this; simp [b0s] at this
theorem o3d {iq lo n : Nat} {u : AV} {y : List α} (R : RR h (.rs iq lo n) hs sz f rows) (hx : get rows i = some x) (ho : h'.ob iq = some (1, List.map eW (List.set hs (Int.toNat i) u))) (hu : b1o h' u sz (List.map f y))
  (hd : ∀ k, ¬ b0s u k -> b2c (.rs iq lo n) hs k) (hk : ∀ j, ¬ b2c (.rs iq lo n) hs j -> ¬ j = iq -> j < h.nx -> h'.ob j = h.ob j) (hn : h.nx <= h'.nx) :
  RR h' (.rs iq lo n) (List.set hs (Int.toNat i) u) sz f (List.set rows (Int.toNat i) y) := by
 have hxi := b4d hx
 have hlt : i.toNat < rows.length := (List.getElem?_eq_some_iff.1 hxi).1
 have hlt' : i.toNat < hs.length := by rw [R.len]; exact hlt
 obtain ⟨e1, e2, e3⟩ : lo = 0 /\ n = hs.length /\ iq < h.nx := by
  rcases R.top with ⟨h1, _⟩ | ⟨id, h1, h2, h3⟩
  ·cases h1
  ·cases h1; exact ⟨rfl, by simp, h3⟩
 subst e1 e2
 have hcase : ∀ {k : Nat} {z : AV}, (List.set hs (Int.toNat i) u)[k]? = some z -> (k = i.toNat /\ z = u) \/ (k ≠ i.toNat /\ hs[k]? = some z) := fun {k z} hz => by
  by_cases e : k = i.toNat
  ·subst e; rw [List.getElem?_set_self hlt'] at hz; cases hz; exact .inl ⟨rfl, rfl⟩
  ·rw [List.getElem?_set_ne (by omega)] at hz; exact .inr ⟨e, hz⟩
 refine ⟨.inr ⟨iq, by simp, ho, by omega⟩, by simp [R.len], fun k z r hz hr => ?_, fun k z hz j hj => ?_, fun k m z z' hne hz hz' j hj => ?_⟩
 ·rcases hcase hz with ⟨rfl, rfl⟩ | ⟨e, hz⟩
  ·rw [List.getElem?_set_self hlt] at hr; cases hr; exact hu
  ·rw [List.getElem?_set_ne (by omega)] at hr
   refine b24 (R.row k z r hz hr) (fun j hj hl => hk j (fun hh => hj (hh.2 z (List.mem_of_getElem? hz))) (fun e2 => ?_) hl) hn
   subst e2
   exact hj (R.off k z hz _ (by simp [b0s]))
 ·rcases hcase hz with ⟨rfl, rfl⟩ | ⟨e, hz⟩
  ·exact Classical.byContradiction fun hc => hj (hd j hc).1
  ·exact R.off k z hz j hj
 ·rcases hcase hz with ⟨rfl, rfl⟩ | ⟨e, hz1⟩ <;> rcases hcase hz' with ⟨rfl, rfl⟩ | ⟨e', hz2⟩
  ·exact absurd rfl hne
  ·exact (hd j hj).2 z' (List.mem_of_getElem? hz2)
  ·exact Classical.byContradiction fun hc => hj ((hd j hc).2 z (List.mem_of_getElem? hz1))
  ·exact R.apart k m z z' hne hz1 hz2 j hj
theorem o29 {l : List (List α)} {id n : Nat} (ho : h.ob id = some (1, List.map eW (List.map (fun _ => nilS) l))) (hn : n = List.length l) (hl : id < h.nx) (hz : ∀ r ∈ l, r = []) : RR h (.rs id 0 n) (List.map (fun _ => nilS) l) sz f l := by
 subst hn
 have hc : ∀ {i : Nat} {w : AV}, (List.map (fun _ : List α => nilS) l)[i]? = some w -> w = nilS := fun {i w} hw => by
  rw [List.getElem?_map] at hw
  cases e : l[i]? with
  | none => rw [e] at hw; cases hw
  | some a => rw [e] at hw; cases hw; rfl
 refine ⟨.inr ⟨id, by simp, ho, hl⟩, by simp, fun i w r hw hr => ?_, fun i w hw k _ => ?_, fun i j w u _ hw hu k hk => ?_⟩
 ·rw [hc hw, hz r (List.mem_of_getElem? hr)]; exact l1c
 ·rw [hc hw]; trivial
 ·rw [hc hu]; trivial
theorem o2v {b : Nat} {n : Int} {l : List (List α)} (h : mks b n [] = some l) : ∀ r ∈ l, r = [] := by
 obtain ⟨_, _, _, rfl⟩ := d2y h
 intro r hr
 exact (List.mem_replicate.1 hr).2
theorem o2r {α : Type} {b : Nat} {n : Int} {l : List (List α)} {h : Heap} {k : AV -> Heap -> Prop} (hm : mks b n [] = some l)
  (hk : k (.rs h.nx 0 (List.length l)) (h.new (1, List.map eW (List.map (fun _ => nilS) l)))) : @c5u 1 [.slice none 0 0] b (I n) (I n) h ⟨k⟩ := by
 obtain ⟨h0, h1, h2, rfl⟩ := d2y hm
 refine d8i (f := eW) (z := nilS) (l := List.replicate n.toNat nilS) rfl (d9q h0 h1 h2) ?_
 rw [List.length_replicate] at hk ⊢
 rw [List.map_replicate] at hk
 exact hk
theorem o2o {b id2 : Nat} {r : List (List α)} {y : List α} {u : AV} {k : AV -> Heap -> Prop} (R : RR h v hs sz f rows) (hx : h.ob id2 = some (1, [[u]])) (hd : b2c v hs id2) (ha : ap b rows [y] = some r)
  (hk : k (.rs h.nx 0 (List.length r)) (b5e h v (1, List.map eW (hs ++ [u])))) : @b6x 1 b v (.rs id2 0 1) h ⟨k⟩ := by
 obtain ⟨hb, rfl⟩ := b71 ha
 refine d6l (f := eW) (a := u) (l := hs) (raw := [u]) (r := hs ++ [u]) R.top hx hd.1 (b72 (by simpa [R.len] using hb)) ?_
 rw [List.length_append] at hk ⊢
 rw [List.map_append] at hk
 rw [R.len]
 exact hk
theorem o25 {b id n : Nat} {r : List (List α)} {y : List α} {u : AV} (R : RR h v hs sz f rows) (ha : ap b rows [y] = some r) (ho : h'.ob id = some (1, List.map eW (hs ++ [u]))) (hl : n = List.length r) (hi : id < h'.nx) (hu : b1o h' u sz (List.map f y))
  (hd : ∀ k, ¬ b0s u k -> b2c v hs k) (hf : h.nx <= id) (hun : b0s u id) (hk : ∀ j, ¬ b2c v hs j -> b0s v j -> j < h.nx -> h'.ob j = h.ob j) (hn : h.nx <= h'.nx) : RR h' (.rs id 0 n) (hs ++ [u]) sz f r := by
 obtain ⟨_, rfl⟩ := b71 ha
 subst hl
 have hcase : ∀ {k : Nat} {z : AV}, (hs ++ [u])[k]? = some z -> (k = hs.length /\ z = u) \/ (k < hs.length /\ hs[k]? = some z) := fun {k z} hz => by
  by_cases e : k < hs.length
  ·rw [List.getElem?_append_left e] at hz; exact .inr ⟨e, hz⟩
  ·rw [List.getElem?_append_right (by omega)] at hz
   cases e2 : k - hs.length with
   | zero => rw [e2] at hz; simp at hz; exact .inl ⟨by omega, hz.symm⟩
   | succ m => rw [e2] at hz; simp at hz
 have hrl : ∀ {k : Nat} {z : AV}, hs[k]? = some z -> ∃ q, rows[k]? = some q := fun {k z} hz => by
  have : k < rows.length := by rw [<- R.len]; exact (List.getElem?_eq_some_iff.1 hz).1
  exact ⟨_, List.getElem?_eq_getElem this⟩
 refine ⟨.inr ⟨id, by simp [R.len], ho, hi⟩, by simp [R.len], fun k z q hz hr => ?_, fun k z hz j hj => ?_, fun k m z z' hne hz hz' j hj => ?_⟩
 ·rcases hcase hz with ⟨rfl, rfl⟩ | ⟨e, hz⟩
  ·rw [R.len, List.getElem?_append_right (Nat.le_refl _)] at hr
   simp at hr; subst hr; exact hu
  ·rw [List.getElem?_append_left (by rw [<- R.len]; exact e)] at hr
   refine b24 (R.row k z q hz hr) (fun j hj hl => hk j (fun hh => hj (hh.2 z (List.mem_of_getElem? hz))) (Classical.byContradiction fun h2 => hj (R.off k z hz j h2)) hl) hn
 ·have e : id = j := by simpa [b0s] using hj
  subst e
  rcases hcase hz with ⟨rfl, rfl⟩ | ⟨e, hz⟩
  ·exact hun
  ·obtain ⟨q, hq⟩ := hrl hz
   exact Classical.byContradiction fun hc => by have := c6f (R.row k z q hz hq) hc; omega
 ·rcases hcase hz with ⟨rfl, rfl⟩ | ⟨e, hz1⟩ <;> rcases hcase hz' with ⟨rfl, rfl⟩ | ⟨e', hz2⟩
  ·exact absurd rfl hne
  ·exact (hd j hj).2 z' (List.mem_of_getElem? hz2)
  ·exact Classical.byContradiction fun hc => hj ((hd j hc).2 z (List.mem_of_getElem? hz1))
  ·exact R.apart k m z z' hne hz1 hz2 j hj
theorem o26 {e : List α -> List AV} (R : RR h v hs sz f rows) (he : ∀ r, e r = [.fs sz (List.map f r)]) (hf : ∀ a, ∀ c ∈ f a, Frz c) (hl : ∀ a, (f a).length = sz) : Fz h v (.fs 1 (List.map e rows)) := by
 rcases R.top with ⟨rfl, h1⟩ | ⟨iq, rfl, h2, h3⟩
 ·have e1 : hs = [] := by simpa using h1
  have := R.len
  have e2 : rows = [] := by cases rows with | nil => rfl | cons => simp_all
  rw [e2]; exact .nil 1
 ·refine .rs iq 0 _ 1 _ _ h2 (by simp) (by simp [R.len]) (fun d hd => ?_) (fun i j c d h1 h2 => ?_)
  ·obtain ⟨a, _, rfl⟩ := List.mem_map.1 hd; rw [he]; rfl
  ·rw [Nat.zero_add] at h1
   obtain ⟨e1, he1, hc⟩ := b6n h1
   obtain ⟨e2, he2, hd⟩ := b6n h2
   rw [List.getElem?_map] at he1 he2
   cases hw : hs[i]? with
   | none => rw [hw] at he1; cases he1
   | some w =>
    cases hr : rows[i]? with
    | none => rw [hr] at he2; cases he2
    | some r =>
     rw [hw] at he1; rw [hr] at he2
     simp only [Option.map_some, Option.some.injEq] at he1 he2
     subst he1 he2
     rw [he] at hd
     cases j with
     | zero => simp [eW] at hc hd; subst hc hd; exact b8f (R.row i w r hw hr) hf hl
     | succ j => simp [eW] at hc
def c7a (v : AV) (hs : List AV) (j : Nat) : Bool := c0v v j || hs.any fun w => c0v w j
theorem o3j {j : Nat} (hj : ¬ b2c v hs j) : c7a v hs j = true := by
 unfold c7a
 rcases d95 hj with h1 | ⟨i, w, hw, h1⟩
 ·rw [g1n h1]; rfl
 ·rw [Bool.or_eq_true]; exact .inr (List.any_eq_true.2 ⟨w, List.mem_of_getElem? hw, g1n h1⟩)
theorem o3k (R : RR h v hs sz f rows) {j : Nat} (hj : b2c v hs j) : c7a v hs j = false := by
 unfold c7a
 rw [Bool.or_eq_false_iff]
 refine ⟨g1o R.top hj.1, ?_⟩
 rw [List.any_eq_false]
 intro w hw
 obtain ⟨i, hi, rfl⟩ := List.getElem_of_mem hw
 have hi' : i < rows.length := by rw [<- R.len]; exact hi
 rw [g1o (R.row i _ _ (List.getElem?_eq_getElem hi) (List.getElem?_eq_getElem hi')) (hj.2 _ hw)]
 simp
theorem o3c {F : Nat -> Bool} (R : RR h v hs sz f rows) (hF : ∀ j, ¬ b2c v hs j -> F j = true) : RR (h.only F) v hs sz f rows :=
 l2o R (fun j hj _ => c6a (hF j hj)) (Nat.le_refl _)
end
theorem o2m {v : AV} {hs : List AV} {id lo n : Nat} (h : b2c v hs id) : ∀ k, ¬ b0s (.rs id lo n) k -> b2c v hs k := fun k hk => by
 have e : id = k := by simpa [b0s] using hk
 exact e ▸ h
theorem o2l {a : Value} {Q : Nat -> Prop} : ∀ k, ¬ b0s (.v a) k -> Q k := fun _ h => (h trivial).elim
theorem o21 {α : Type} {id lo n k : Nat} {l : List α} (h : ¬ id = k) : b2c (.rs id lo n) (List.map (fun _ => nilS) l) k := ⟨h, fun w hw => by
 obtain ⟨_, _, rfl⟩ := List.mem_map.1 hw; trivial⟩
theorem o23 {v u : AV} {hs : List AV} {i k : Nat} (h : b2c v hs k) (hu : b0s u k) : b2c v (List.set hs i u) k := ⟨h.1, fun w hw => by
 rcases List.mem_or_eq_of_mem_set hw with h1 | rfl
 ·exact h.2 w h1
 ·exact hu⟩
theorem o20 {v u : AV} {hs : List AV} {id lo n k : Nat} (h : b2c v hs k) (hu : b0s u k) (hi : ¬ id = k) : b2c (.rs id lo n) (hs ++ [u]) k := ⟨hi, fun w hw => by
 rcases List.mem_append.1 hw with h1 | h1
 ·exact h.2 w h1
 ·rw [List.mem_singleton.1 h1]; exact hu⟩
theorem b8n {h : Heap} {v : AV} {sz : Nat} {rows : List (List AV)} (hv : b1o h v sz rows) : ∀ i, h.nx <= i -> b0s v i := fun _ hi => b1u hv hi
theorem o27 {α : Type} {h : Heap} {v : AV} {hs : List AV} {sz : Nat} {f : α -> List AV} {rows : List (List α)} (R : RR h v hs sz f rows) : ∀ i, h.nx <= i -> b0s v i := fun _ hi => (l2n R hi).1
theorem j9h {n : Nat} : (n <= n) = True := by simp
theorem j9i {n : Nat} : (n <= nxs n) = True := by simp only [nxs, eq_iff_iff, iff_true]; omega
theorem j9m {n : Nat} : (n <= nxs (nxs n)) = True := by simp only [nxs, eq_iff_iff, iff_true]; omega
theorem j9n {n : Nat} : (n <= nxs (nxs (nxs n))) = True := by simp only [nxs, eq_iff_iff, iff_true]; omega
theorem j9o {n : Nat} : (n <= nxs (nxs (nxs (nxs n)))) = True := by simp only [nxs, eq_iff_iff, iff_true]; omega
theorem j9p {n : Nat} : (n <= nxs (nxs (nxs (nxs (nxs n))))) = True := by simp only [nxs, eq_iff_iff, iff_true]; omega
theorem j9q {n : Nat} : (n <= nxs (nxs (nxs (nxs (nxs (nxs n)))))) = True := by simp only [nxs, eq_iff_iff, iff_true]; omega
theorem j9r {n : Nat} : (n <= nxs (nxs (nxs (nxs (nxs (nxs (nxs n))))))) = True := by simp only [nxs, eq_iff_iff, iff_true]; omega
theorem j9s {n : Nat} : (n <= nxs (nxs (nxs (nxs (nxs (nxs (nxs (nxs n)))))))) = True := by simp only [nxs, eq_iff_iff, iff_true]; omega
theorem j9t {n : Nat} : (n <= nxs (nxs (nxs (nxs (nxs (nxs (nxs (nxs (nxs n))))))))) = True := by simp only [nxs, eq_iff_iff, iff_true]; omega
theorem j9j {n : Nat} : (n <= nxs (nxs (nxs (nxs (nxs (nxs (nxs (nxs (nxs (nxs n)))))))))) = True := by simp only [nxs, eq_iff_iff, iff_true]; omega
theorem j9k {n : Nat} : (n <= nxs (nxs (nxs (nxs (nxs (nxs (nxs (nxs (nxs (nxs (nxs n))))))))))) = True := by simp only [nxs, eq_iff_iff, iff_true]; omega
theorem j9l {n : Nat} : (n <= nxs (nxs (nxs (nxs (nxs (nxs (nxs (nxs (nxs (nxs (nxs (nxs n)))))))))))) = True := by simp only [nxs, eq_iff_iff, iff_true]; omega
attribute [go_sem] j9h j9i j9m j9n j9o j9p j9q j9r j9s j9t j9j j9k j9l
theorem j93 {a b} : b2a (.fp a b) = true := rfl
theorem g6y {a b} : cellsOf (.fp a b) = [.fp a b] := rfl
theorem j96 {a b c} : b2a (.rp a b c) = true := rfl
theorem g60 {a b c} : cellsOf (.rp a b c) = [.rp a b c] := rfl
theorem j92 {a b c} : b2a (.fn a b c) = true := rfl
theorem g6x {a b c} : cellsOf (.fn a b c) = [.fn a b c] := rfl
theorem j99 {a} : b2a (.v (.string a)) = true := rfl
attribute [go_sem] j93 g6y j96 g60 j92 g6x j99
theorem j9v {id lo n i : Nat} (h : b0s (.rs id lo n) i) : ¬ id = i := h
theorem o2k {id lo n : Nat} {w : AV} (h : ∀ j, ¬ b0s (.rs id lo n) j -> b0s w j) : b0s w id := h id (by simp [b0s])
end Go.Nw
