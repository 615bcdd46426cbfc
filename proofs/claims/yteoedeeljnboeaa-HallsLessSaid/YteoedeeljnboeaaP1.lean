/- HallsLess: a copy of a hall in one's own heap, and the law's walk. -/
import Derived.Test.YteoedeeljnboeaaHM
import Derived.Test.YteoedeeljnboeaaNwOwnA
set_option linter.all false
namespace Go.Nw.HM
open Go.Nw.Halls
set_option maxHeartbeats 4000000
variable {O : Orac} [MapsOk O]
def y68 (ic : Nat) (t : Train) : List AV := [I t.At.Low, I t.At.High, .rs ic 0 t.Crowds.length]
def b75 (k ic : Nat) (l : List Train) : List (List AV) := l.mapIdx fun i t => if i = k then y68 ic t else b11 t
def x26 (k : Nat) (l : List Train) : List (List AV) := List.map c16 ((l[k]?).map (·.Crowds) |>.getD [])
theorem E7n {k ic i : Nat} {l : List Train} : (b75 k ic l)[i]? = (l[i]?).map fun t => if i = k then y68 ic t else b11 t := by
 unfold b75; rw [List.getElem?_mapIdx]
theorem G61 {k ic : Nat} {l : List Train} {t : Train} : b75 k ic (l ++ [t]) = b75 k ic l ++ [if l.length = k then y68 ic t else b11 t] := by
 unfold b75; rw [List.mapIdx_append]; simp
theorem H1i {k a b : Nat} {l : List Train} (h : l.length <= k) : b75 k a l = b75 k b l := by
 apply List.ext_getElem?;intro i;rw [E7n, E7n];by_cases hi : i < l.length
 ·rw [gG9 hi];simp only [Option.map_some];rw [if_neg (by omega), if_neg (by omega)]
 ·rw [List.getElem?_eq_none (by omega)]; rfl
theorem H1k {k a b : Nat} {l : List Train} {t : Train} (h : l.length = k) : b75 k a (l ++ [t]) = b75 k b l ++ [y68 a t] := by
 rw [G61, if_pos h, H1i (b := b) (by omega)]
theorem H1j {k a : Nat} {l : List Train} {t : Train} (h : ¬ l.length = k) : b75 k a (l ++ [t]) = b75 k a l ++ [b11 t] := by
 rw [G61, if_neg h]
theorem G9a {k : Nat} {l : List Train} {t : Train} (h : l.length = k) : x26 k (l ++ [t]) = List.map c16 t.Crowds := by
 unfold x26; rw [List.getElem?_append_right (by omega)]; simp [h]
theorem G89 {k : Nat} {l : List Train} {t : Train} (h : k < l.length) : x26 k (l ++ [t]) = x26 k l := by
 unfold x26; rw [List.getElem?_append_left h]
theorem G62 {k ic : Nat} {l : List Train} {e : List AV} (h : e ∈ b75 k ic l) : e.length = 3 := by
 obtain ⟨i, hi, rfl⟩ := List.getElem_of_mem h;have := E7n (k := k) (ic := ic) (i := i) (l := l);rw [gG9 hi] at this
 cases hx : l[i]? with
 | none => rw [hx] at this; cases this
 | some t =>
  rw [hx] at this;rw [Option.some.inj this]; simp only; split <;> rfl
theorem E8t {k ic : Nat} {l : List Train} : (b75 k ic l).length = l.length := by simp [b75]
theorem G9b {k : Nat} {l : List Train} {e : List AV} (h : e ∈ x26 k l) : e.length = 3 := by
 obtain ⟨t, _, rfl⟩ := List.mem_map.1 h; rfl
theorem G63 {f : Nat -> Option Nat} {k a b : Nat} {l : List Train} (hf : f a = some b) {i j : Nat} {c : AV} (h : at2 (b75 k a l) i j = some c) : ∃ d, at2 (b75 k b l) i j = some d /\ Ren f c d := by
 obtain ⟨r, h1, h2⟩ := b9m h;rw [E7n] at h1
 cases hx : l[i]? with
 | none => rw [hx] at h1; cases h1
 | some t =>
  rw [hx] at h1;simp only [Option.map_some, iE9] at h1;have e2 : at2 (b75 k b l) i j = (if i = k then y68 b t else b11 t)[j]? := by unfold at2; rw [E7n, hx]; rfl
  by_cases e : i = k
  ·rw [if_pos e] at h1 e2;subst h1;rw [e2];match j, h2 with
   | 0, h2 => cases h2; exact ⟨_, rfl, .frz _ (.v _)⟩
   | 1, h2 => cases h2; exact ⟨_, rfl, .frz _ (.v _)⟩
   | 2, h2 => cases h2; exact ⟨_, rfl, .rs a b 0 _ hf⟩
   | j + 3, h2 => simp [y68] at h2
  ·rw [if_neg e] at h1 e2;subst h1;exact ⟨c, by rw [e2]; exact h2, .frz _ (c19 t c (mG9 h2))⟩
theorem E8w {α : Type} {f : Nat -> Option Nat} {e : α -> List AV} {l : List α} (he : ∀ a, ∀ c ∈ e a, Frz c) {i j : Nat} {c : AV} (h : at2 (List.map e l) i j = some c) : ∃ d, at2 (List.map e l) i j = some d /\ Ren f c d := by
 obtain ⟨r, h1, h2⟩ := b9m h;obtain ⟨a, _, rfl⟩ := List.mem_map.1 (mG9 h1);exact ⟨c, h, .frz _ (he a c (mG9 h2))⟩
theorem G9c {b : XCode} {Q : XExit -> Slots -> Heap -> Prop} {t : Slots} {h : Heap} {id sz : Nat} {rows : List (List AV)} {raw r : List AV} (F : Nat -> Bool) (ho : h.ob id = some (sz, rows ++ [raw])) (hi : F id = false)
  (hz : FzL (h.only F) raw r) (hf : ∀ c ∈ r, Frz c) (hl : ∀ e ∈ rows, e.length = sz) (hlr : r.length = sz) (hw : cw O b Q t ((h.but F).upd id (some (sz, rows ++ [r])))) : cw O (.seq .ghost b) Q t h := by
 refine c2j (t' := t) (h' := (h.but F).upd id (some (sz, rows ++ [r]))) ⟨F, rfl, rfl, fun j n es' hj => ?_, fun _ => .inl rfl⟩ hw;have hj' : (if j = id then some (sz, rows ++ [r]) else (if F j then none else h.ob j)) = some (n, es') := hj;split at hj'
 ·rename_i e; subst e;simp only [iE9, Prod.mk.injEq] at hj';obtain ⟨rfl, rfl⟩ := hj';refine ⟨hi, _, ho, .inr ⟨by simp, fun e he => ?_⟩, fun i k d hd => ?_⟩
  ·rcases List.mem_append.1 he with he | he
   ·exact hl e he
   ·rw [List.mem_singleton.1 he]; exact hlr
  ·by_cases hik : i < rows.length
   ·refine ⟨d, ?_, .inl rfl⟩;simp only [at2] at hd ⊢
    rw [List.getElem?_append_left hik] at hd ⊢
    exact hd
   ·by_cases he : i = rows.length
    ·subst he;have h1 : at2 (rows ++ [r]) rows.length k = r[k]? := by simp [at2]
     have h2 : at2 (rows ++ [raw]) rows.length k = raw[k]? := by simp [at2]
     rw [h1] at hd; rw [h2];have hlen := (b5h hz).1;obtain ⟨hk, _⟩ := gS9.1 hd;have hk' : k < raw.length := by rw [hlen]; exact hk
     exact ⟨raw[k], gG9 hk', .inr ⟨(b5h hz).2 k _ _ (gG9 hk') hd, hf _ (mG9 hd)⟩⟩
    ·exfalso
     have : at2 (rows ++ [r]) i k = none := by
      have : (rows ++ [r])[i]? = none := by rw [List.getElem?_eq_none_iff]; simp; omega
      unfold at2; rw [this]; rfl
     rw [this] at hd; cases hd
 ·rename_i e;split at hj'
  ·cases hj'
  ·rename_i hF;exact ⟨by simpa using hF, es', hj', .inl rfl, fun i k d hd => ⟨d, hd, .inl rfl⟩⟩
def E7e (k ic : Nat) (r : Hall) : Frag := [(3, b75 k ic r.Trains), (3, x26 k r.Trains), (5, List.map b15 r.Combs), (3, List.map b20 r.Shifts)]
def E77 (a b c : Nat) (r : Hall) : AV := .agg [.rs b 0 r.Combs.length, .rs a 0 r.Trains.length, .rs c 0 r.Shifts.length, I r.Until]
theorem G60 {f : Nat -> Option Nat} {a b c a' b' c' : Nat} {r : Hall} (ha : f a = some a') (hb : f b = some b') (hc : f c = some c') : Ren f (E77 a b c r) (E77 a' b' c' r) := by
 refine .agg _ _ rfl fun i x y hx hy => ?_;match i, hx, hy with
 | 0, hx, hy => cases hx; cases hy; exact .rs _ _ _ _ hb
 | 1, hx, hy => cases hx; cases hy; exact .rs _ _ _ _ ha
 | 2, hx, hy => cases hx; cases hy; exact .rs _ _ _ _ hc
 | 3, hx, hy => cases hx; cases hy; exact .frz _ (.v _)
 | i + 4, hx, hy => simp at hx
theorem G45 {k ic : Nat} {r : Hall} {j sz : Nat} {ds : List (List AV)} (h : (E7e k ic r)[j]? = some (sz, ds)) : ∀ e ∈ ds, e.length = sz := by
 unfold E7e at h;match j, h with
 | 0, h => cases h; exact fun e he => G62 he
 | 1, h => cases h; exact fun e he => G9b he
 | 2, h => cases h; exact fun e he => by obtain ⟨t, _, rfl⟩ := List.mem_map.1 he; rfl
 | 3, h => cases h; exact fun e he => by obtain ⟨t, _, rfl⟩ := List.mem_map.1 he; rfl
 | j + 4, h => simp at h
theorem G9d {t : Slots} {h : Heap} {n id i0 i1 i2 i3 k : Nat} {r : Hall} (ht : t n = .rp id 0 0) (ho : h.ob id = some (4, [[.rs i2 0 r.Combs.length, .rs i0 0 r.Trains.length, .rs i3 0 r.Shifts.length, I r.Until]]))
  (o0 : h.ob i0 = some (3, b75 k i1 r.Trains)) (o1 : h.ob i1 = some (3, x26 k r.Trains)) (o2 : h.ob i2 = some (5, List.map b15 r.Combs)) (o3 : h.ob i3 = some (3, List.map b20 r.Shifts))
  (n01 : ¬ i0 = i1) (n02 : ¬ i0 = i2) (n03 : ¬ i0 = i3) (n12 : ¬ i1 = i2) (n13 : ¬ i1 = i3) (n23 : ¬ i2 = i3) (htr : True) :
  b4b [.cell n true 4] (E77 0 2 3 r) (E7e k 1 r) ⟨t, h⟩ := by
 have f0 : (fun x => (List.range [i0, i1, i2, i3].length).find? fun k => [i0, i1, i2, i3][k]? = some x) i0 = some 0 := by simp [List.range_succ, List.find?]
 have f1 : (fun x => (List.range [i0, i1, i2, i3].length).find? fun k => [i0, i1, i2, i3][k]? = some x) i1 = some 1 := by simp [List.range_succ, List.find?, n01]
 have f2 : (fun x => (List.range [i0, i1, i2, i3].length).find? fun k => [i0, i1, i2, i3][k]? = some x) i2 = some 2 := by simp [List.range_succ, List.find?, n02, n12]
 have f3 : (fun x => (List.range [i0, i1, i2, i3].length).find? fun k => [i0, i1, i2, i3][k]? = some x) i3 = some 3 := by simp [List.range_succ, List.find?, n03, n13, n23]
 refine .inr ⟨[E77 i0 i2 i3 r], [i0, i1, i2, i3], ?_, rfl, by simp [n01, n02, n03, n12, n13, n23], G60 f0 f2 f3, fun j sz ds hj => ?_⟩
 ·simp [c46, eff, St.ev, ht, ho, E77]
 ·have hlen := G45 hj
  unfold E7e at hj;match j, hj with
  | 0, hj => cases hj; exact ⟨i0, _, rfl, o0, by simp [b75], hlen, fun i j c hc => G63 f1 hc⟩
  | 1, hj => cases hj; exact ⟨i1, _, rfl, o1, rfl, hlen, fun i j c hc => E8w E7k hc⟩
  | 2, hj => cases hj; exact ⟨i2, _, rfl, o2, rfl, hlen, fun i j c hc => E8w c62 hc⟩
  | 3, hj => cases hj; exact ⟨i3, _, rfl, o3, rfl, hlen, fun i j c hc => E8w c69 hc⟩
  | j + 4, hj => simp at hj
def G0p (O : Orac) : Prop := ∀ (h_ : Hall) (r : Hall) (k : Nat) (hk : k < r.Trains.length) (hm0 : E9h h_ = some r), O "newel/newellaw06.copied" [.agg [.fs 5 (List.map b15 h_.Combs), .fs 3 (List.map b11 h_.Trains), .fs 3 (List.map b20 h_.Shifts), I h_.Until]] (E77 0 2 3 r) (E7e k 1 r)
theorem H0e (hf : G0p O) {h_ r : Hall} {k : Nat} (hk : k < r.Trains.length) (hm : E9h h_ = some r) {h : Heap} {K : AV -> Heap -> Prop}
  (hK : K (E77 h.nx (nxs (nxs h.nx)) (nxs (nxs (nxs h.nx))) r) ((((h.new (3, b75 k (nxs h.nx) r.Trains)).new (3, x26 k r.Trains)).new (5, List.map b15 r.Combs)).new (3, List.map b20 r.Shifts))) :
  @x61 O "newel/newellaw06.copied" [.agg [.fs 5 (List.map b15 h_.Combs), .fs 3 (List.map b11 h_.Trains), .fs 3 (List.map b20 h_.Shifts), I h_.Until]] h ⟨K⟩ := by
 have ha : ∀ a ∈ [AV.agg [.fs 5 (List.map b15 h_.Combs), .fs 3 (List.map b11 h_.Trains), .fs 3 (List.map b20 h_.Shifts), I h_.Until]], Frz a := b0a (.agg _ (b0a (b0c fun a _ => c62 a) (b0a (b0c fun a _ => c19 a) (b0a (b0c fun a _ => c69 a) (b0a (b0e _) b0j))))) b0j
 have g : ∀ j, j < 4 -> (fun k' => if k' < (E7e k 1 r).length then some (h.nx + k') else none) j = some (h.nx + j) := fun j hj => by
  show (if j < 4 then some (h.nx + j) else none) = _
  rw [if_pos hj]
 refine ⟨_, _, ⟨_, _, _, E7e k (h.nx + 1) r, FzL.frz ha, hf h_ r k hk hm, .inl ha, G60 (g 0 (by omega)) (g 2 (by omega)) (g 3 (by omega)), rfl, fun j sz ds hj => ?_, rfl⟩, hK⟩;have hlen : ∀ ds', (E7e k (h.nx + 1) r)[j]? = some (sz, ds') -> ∀ e ∈ ds', e.length = sz := fun ds' h' => G45 h';unfold E7e at hj;match j, hj with
 | 0, hj => cases hj; exact ⟨_, rfl, by simp [b75], hlen _ rfl, fun i j c hc => G63 (f := fun k' => if k' < (E7e k 1 r).length then some (h.nx + k') else none) (g 1 (by omega)) hc⟩
 | 1, hj => cases hj; exact ⟨_, rfl, rfl, hlen _ rfl, fun i j c hc => E8w E7k hc⟩
 | 2, hj => cases hj; exact ⟨_, rfl, rfl, hlen _ rfl, fun i j c hc => E8w c62 hc⟩
 | 3, hj => cases hj; exact ⟨_, rfl, rfl, hlen _ rfl, fun i j c hc => E8w c69 hc⟩
 | j + 4, hj => simp at hj
theorem G3z (hf : Has O "newel/newellaw06.copied" x_l06_copied) : G0p O := by
 intro h_ r k hk hm0;unfold E9h at hm0;refine c7b hf rfl (b0a (.agg _ (b0a (b0c fun a _ => c62 a) (b0a (b0c fun a _ => c19 a) (b0a (b0c fun a _ => c69 a) (b0a (b0e _) b0j))))) b0j) ?_;refine b1c (fun t h => t 0 = .agg [.fs 5 (List.map b15 h_.Combs), .fs 3 (List.map b11 h_.Trains), .fs 3 (List.map b20 h_.Shifts), I h_.Until]) rfl fun t h s0 => ?_;simp only [x_l06_copied];refine b0b fun K hK => ?_;simp only [go_sem, s0];refine hK _ _ ?_;clear hK K;refine b0b fun K hK => ?_;simp only [go_sem];refine hK _ _ ?_;clear hK K;obtain ⟨l2, h_l2, hm0⟩ := b0g hm0;refine b0b fun K hK => ?_;simp only [go_sem];refine b3a (f := b15) (l := ([])) (m := h_.Combs) ?_ ?_ ?_ ?_ h_l2 ?_
 ·exact (b2v vc9 vc9 vh9)
 ·exact b7j
 ·exact b7i
 ·exact (fun e => by cases e)
 simp only [go_sem];refine hK _ _ ?_;clear hK K;obtain ⟨l4, h_l4, hm0⟩ := b0g hm0;refine b0b fun K hK => ?_;simp only [go_sem];refine b3a (f := b20) (l := ([])) (m := h_.Shifts) ?_ ?_ ?_ ?_ h_l4 ?_
 ·exact (b2v vc9 vc9 vh9)
 ·exact b7j
 ·exact b7i
 ·exact (fun e => by cases e)
 simp only [go_sem];refine hK _ _ ?_;clear hK K;refine b0b fun K hK => ?_;simp only [go_sem];refine hK _ _ ?_;clear hK K;refine b0v ?_;refine b0b fun K hK => ?_;simp only [go_sem];refine hK _ _ ?_;clear hK K;refine b0i fun K5 hK5 => ?_
 have J6 : ∀ (q_3_1 : List Train) (i2 : Nat) (i3 : Nat) (i3_1 : Nat) (v3 : AV) (i3_2 : Nat) (ic : Nat) (t : Slots) (h : Heap), t 2 = .rp i2 0 0 -> t 3 = .rp i3 0 0 -> h.ob i2 = some (4, [[.v (.slice none 0 0), .v (.slice none 0 0), .v (.slice none 0 0), I 0]]) -> i2 < h.nx -> h.ob i3 = some (4, [[.rs i3_1 0 (List.length l2), v3, .rs i3_2 0 (List.length l4), I h_.Until]]) -> i3 < h.nx -> h.ob i3_1 = some (5, List.map b15 l2) -> i3_1 < h.nx -> b2a h v3 3 (List.map (fun r : List AV => r) (b75 k ic q_3_1)) -> (k < q_3_1.length -> h.ob ic = some (3, x26 k q_3_1) /\ ic < h.nx /\ ¬i2 = ic /\ ¬i3 = ic /\ ¬i3_1 = ic /\ ¬i3_2 = ic /\ b07 v3 ic) -> h.ob i3_2 = some (3, List.map b20 l4) -> i3_2 < h.nx -> ¬i2 = i3 -> ¬i2 = i3_1 -> b07 v3 i2 -> ¬i2 = i3_2 -> ¬i3 = i3_1 -> b07 v3 i3 -> ¬i3 = i3_2 -> b07 v3 i3_1 -> ¬i3_1 = i3_2 -> b07 v3 i3_2 -> G34 h_ l2 l4 q_3_1 = some r -> K5 t h := by
  intro q_3_1 i2 i3 i3_1 v3 i3_2 ic t h s2 s3 ob_o2 lt_o2 ob_o3 lt_o3 ob_o3x lt_o3x ow_o3xx hic ob_o3xxx lt_o3xxx ne_o2_o3 ne_o2_o3x ni_o2_o3xx ne_o2_o3xxx ne_o3_o3x ni_o3_o3xx ne_o3_o3xxx ni_o3x_o3xx ne_o3x_o3xxx ni_o3xx_o3xxx hm0;refine hK5 _ _ ?_;unfold G34 at hm0;refine b0b fun K hK => ?_;simp only [go_sem, s2, s3, ob_o2, lt_o2, ob_o3, lt_o3, ob_o3x, lt_o3x, l3r ow_o3xx, ob_o3xxx, lt_o3xxx, ne_o2_o3, b1z ne_o2_o3, ne_o2_o3x, b1z ne_o2_o3x, ni_o2_o3xx, ne_o2_o3xxx, b1z ne_o2_o3xxx, ne_o3_o3x, b1z ne_o3_o3x, ni_o3_o3xx, ne_o3_o3xxx, b1z ne_o3_o3xxx, ni_o3x_o3xx, ne_o3x_o3xxx, b1z ne_o3x_o3xxx, ni_o3xx_o3xxx, b5r v3];refine hK _ _ ?_;clear hK K;simp only [b0x, b1p, b2e, b0y];obtain rfl := Option.some.inj hm0;obtain ⟨c1, c2, c3, c4, c5, c6, c7⟩ := hic hk;rcases ow_o3xx with ⟨_, he⟩ | ⟨i4, rfl, ob4, lt4⟩
  ·exact absurd (congrArg List.length he) (by simp [b75]; intro e; rw [e] at hk; simp at hk)
  rw [show (List.map (fun r : List AV => r) (b75 k ic q_3_1)).length = q_3_1.length from by simp [b75]] at ob_o3;have n24 : ¬ i4 = i2 := ni_o2_o3xx;have n34 : ¬ i4 = i3 := ni_o3_o3xx;have n314 : ¬ i4 = i3_1 := ni_o3x_o3xx;have n324 : ¬ i4 = i3_2 := ni_o3xx_o3xxx;have nc4 : ¬ i4 = ic := c7;refine G9d (t := _) (n := 2) (id := i2) (i0 := i4) (i1 := ic) (i2 := i3_1) (i3 := i3_2) (by simp only [go_sem, s2]) (by simp only [go_sem, s2, E8t, ob_o2, lt_o2, ob_o3, lt_o3, ob_o3x, lt_o3x, ob_o3xxx, lt_o3xxx, ne_o2_o3, b1z ne_o2_o3, ne_o2_o3x, b1z ne_o2_o3x, n24, ne_o2_o3xxx, b1z ne_o2_o3xxx, ne_o3_o3x, b1z ne_o3_o3x, n34, ne_o3_o3xxx, b1z ne_o3_o3xxx, n314, ne_o3x_o3xxx, b1z ne_o3x_o3xxx, n324, List.length_append, List.map_append]) (by rw [List.map_id_fun', id] at ob4; simp only [go_sem, ob4, s2, E8t, ob_o2, lt_o2, ob_o3, lt_o3, ob_o3x, lt_o3x, ob_o3xxx, lt_o3xxx, ne_o2_o3, b1z ne_o2_o3, ne_o2_o3x, b1z ne_o2_o3x, n24, ne_o2_o3xxx, b1z ne_o2_o3xxx, ne_o3_o3x, b1z ne_o3_o3x, n34, ne_o3_o3xxx, b1z ne_o3_o3xxx, n314, ne_o3x_o3xxx, b1z ne_o3x_o3xxx, n324, List.length_append, List.map_append]) (by simp only [go_sem, c1, b1z c3, b1z c4, s2, E8t, ob_o2, lt_o2, ob_o3, lt_o3, ob_o3x, lt_o3x, ob_o3xxx, lt_o3xxx, ne_o2_o3, b1z ne_o2_o3, ne_o2_o3x, b1z ne_o2_o3x, n24, ne_o2_o3xxx, b1z ne_o2_o3xxx, ne_o3_o3x, b1z ne_o3_o3x, n34, ne_o3_o3xxx, b1z ne_o3_o3xxx, n314, ne_o3x_o3xxx, b1z ne_o3x_o3xxx, n324, List.length_append, List.map_append]) (by simp only [go_sem, s2, E8t, ob_o2, lt_o2, ob_o3, lt_o3, ob_o3x, lt_o3x, ob_o3xxx, lt_o3xxx, ne_o2_o3, b1z ne_o2_o3, ne_o2_o3x, b1z ne_o2_o3x, n24, ne_o2_o3xxx, b1z ne_o2_o3xxx, ne_o3_o3x, b1z ne_o3_o3x, n34, ne_o3_o3xxx, b1z ne_o3_o3xxx, n314, ne_o3x_o3xxx, b1z ne_o3x_o3xxx, n324, List.length_append, List.map_append]) (by simp only [go_sem, s2, E8t, ob_o2, lt_o2, ob_o3, lt_o3, ob_o3x, lt_o3x, ob_o3xxx, lt_o3xxx, ne_o2_o3, b1z ne_o2_o3, ne_o2_o3x, b1z ne_o2_o3x, n24, ne_o2_o3xxx, b1z ne_o2_o3xxx, ne_o3_o3x, b1z ne_o3_o3x, n34, ne_o3_o3xxx, b1z ne_o3_o3xxx, n314, ne_o3x_o3xxx, b1z ne_o3x_o3xxx, n324, List.length_append, List.map_append]) nc4 n314 n324 (b1z c5) (b1z c6) ne_o3x_o3xxx (by simp)
 simp only [b0u];obtain ⟨b7, hl7, hm0⟩ := b0g hm0;refine b1j hl7 (fun | (q_3_1, i_4), t, h => ∃ i2 : Nat, ∃ i3 : Nat, ∃ i3_1 : Nat, ∃ v3 : AV, ∃ i3_2 : Nat, ∃ ic : Nat, t 1 = .fp [.fs 5 (List.map b15 h_.Combs), .fs 3 (List.map b11 h_.Trains), .fs 3 (List.map b20 h_.Shifts), I h_.Until] 0 /\ t 2 = .rp i2 0 0 /\ t 3 = .rp i3 0 0 /\ t 4 = I i_4 /\ h.ob i2 = some (4, [[.v (.slice none 0 0), .v (.slice none 0 0), .v (.slice none 0 0), I 0]]) /\ i2 < h.nx /\ h.ob i3 = some (4, [[.rs i3_1 0 (List.length l2), v3, .rs i3_2 0 (List.length l4), I h_.Until]]) /\ i3 < h.nx /\ h.ob i3_1 = some (5, List.map b15 l2) /\ i3_1 < h.nx /\ b2a h v3 3 (List.map (fun r : List AV => r) (b75 k ic q_3_1)) /\ (k < q_3_1.length -> h.ob ic = some (3, x26 k q_3_1) /\ ic < h.nx /\ ¬i2 = ic /\ ¬i3 = ic /\ ¬i3_1 = ic /\ ¬i3_2 = ic /\ b07 v3 ic) /\ h.ob i3_2 = some (3, List.map b20 l4) /\ i3_2 < h.nx /\ ¬i2 = i3 /\ ¬i2 = i3_1 /\ b07 v3 i2 /\ ¬i2 = i3_2 /\ ¬i3 = i3_1 /\ b07 v3 i3 /\ ¬i3 = i3_2 /\ b07 v3 i3_1 /\ ¬i3_1 = i3_2 /\ b07 v3 i3_2) ?_ ?_
 ·exact ⟨h.nx, (nxs h.nx), (nxs (nxs (nxs h.nx))), (.v (.slice none 0 0)), (nxs (nxs (nxs (nxs (nxs h.nx))))), 0, vb9, vb9, vb9, vb9, vc9, vh9, vc9, vh9, vc9, vh9, c0o, (fun hh => by simp at hh), vc9, vh9, ve9, ve9, va9, ve9, ve9, va9, ve9, va9, ve9, va9⟩
 ·rintro ⟨q_3_1, i_4⟩ o t h ⟨i2, i3, i3_1, v3, i3_2, ic, s1, s2, s3, s4, ob_o2, lt_o2, ob_o3, lt_o3, ob_o3x, lt_o3x, ow_o3xx, hic, ob_o3xxx, lt_o3xxx, ne_o2_o3, ne_o2_o3x, ni_o2_o3xx, ne_o2_o3xxx, ne_o3_o3x, ni_o3_o3xx, ne_o3_o3xxx, ni_o3x_o3xx, ne_o3x_o3xxx, ni_o3xx_o3xxx⟩ hm1 hb7;simp only [G0c] at hm1;rw [G7y];refine b0v ?_;refine b0b fun K hK => ?_;simp only [go_sem, s1, s4, lt_o2, lt_o3, lt_o3x, lt_o3xxx, b5r v3];refine hK _ _ ?_;clear hK K;refine b0i fun K8 hK8 => ?_;simp only [go_sem];refine b0k (fun hc9 => ?_) (fun hc9 => ?_)
  ·rw [b0r hc9] at hm1;simp only [b0s, b02, b0f];refine hK8 _ _ ?_;refine b0i fun K10 hK10 => ?_;simp only [b0u];obtain ⟨x14, h_x14, hm1⟩ := b0g hm1;have h_x140 := b05 h_x14;have h_x141 := b06 h_x14;obtain ⟨l15, h_l15, hm1⟩ := b0g hm1;obtain ⟨l16, h_l16, hm1⟩ := b0g hm1;refine b0b fun K hK => ?_;simp only [go_sem, s1, s3, s4, ob_o3, lt_o3, ob_o3x, lt_o3x, l3r ow_o3xx, ob_o3xxx, lt_o3xxx, lt_o2, ne_o2_o3, b1z ne_o2_o3, ne_o2_o3x, b1z ne_o2_o3x, ni_o2_o3xx, ne_o2_o3xxx, b1z ne_o2_o3xxx, ne_o3_o3x, b1z ne_o3_o3x, ni_o3_o3xx, ne_o3_o3xxx, b1z ne_o3_o3xxx, ni_o3x_o3xx, ne_o3x_o3xxx, b1z ne_o3x_o3xxx, ni_o3xx_o3xxx, b08 h_x14, b3n h_x14, h_x140, h_x141, b5r v3];refine b3a (f := c16) (l := ([])) (m := x14.Crowds) ?_ ?_ ?_ ?_ h_l15 ?_
   ·exact (b2v (by simp only [go_sem, ob_o2, lt_o2, ob_o3, lt_o3, ob_o3x, lt_o3x, b8s ow_o3xx, ob_o3xxx, lt_o3xxx, ne_o2_o3, b1z ne_o2_o3, ne_o2_o3x, b1z ne_o2_o3x, ni_o2_o3xx, ne_o2_o3xxx, b1z ne_o2_o3xxx, ne_o3_o3x, b1z ne_o3_o3x, ni_o3_o3xx, ne_o3_o3xxx, b1z ne_o3_o3xxx, ni_o3x_o3xx, ne_o3x_o3xxx, b1z ne_o3x_o3xxx, ni_o3xx_o3xxx, List.length_append, List.map_append]) (by simp only [go_sem, ob_o2, lt_o2, ob_o3, lt_o3, ob_o3x, lt_o3x, b8s ow_o3xx, ob_o3xxx, lt_o3xxx, ne_o2_o3, b1z ne_o2_o3, ne_o2_o3x, b1z ne_o2_o3x, ni_o2_o3xx, ne_o2_o3xxx, b1z ne_o2_o3xxx, ne_o3_o3x, b1z ne_o3_o3x, ni_o3_o3xx, ne_o3_o3xxx, b1z ne_o3_o3xxx, ni_o3x_o3xx, ne_o3x_o3xxx, b1z ne_o3x_o3xxx, ni_o3xx_o3xxx, List.length_append, List.map_append]) (by simp only [go_sem, lt_o2, lt_o3, lt_o3x, lt_o3xxx]))
   ·exact b7j
   ·exact b7i
   ·exact (fun e => by cases e)
   simp only [go_sem, s1, s3, s4, ob_o3, lt_o3, ob_o3x, lt_o3x, l3r ow_o3xx, ob_o3xxx, lt_o3xxx, lt_o2, ne_o2_o3, b1z ne_o2_o3, ne_o2_o3x, b1z ne_o2_o3x, ni_o2_o3xx, ne_o2_o3xxx, b1z ne_o2_o3xxx, ne_o3_o3x, b1z ne_o3_o3x, ni_o3_o3xx, ne_o3_o3xxx, b1z ne_o3_o3xxx, ni_o3x_o3xx, ne_o3x_o3xxx, b1z ne_o3x_o3xxx, ni_o3xx_o3xxx, b08 h_x14, b3n h_x14, h_x140, h_x141, b5r v3];have h_l17 : ap 40 (b75 k ic q_3_1) [([] : List AV)] = some (b75 k ic q_3_1 ++ [[]]) := b9k (by have := (r9o h_l16).1; simpa [b75] using this);refine j3y (f := fun r : List AV => r) (l := b75 k ic q_3_1) (a := []) (raw := [I x14.At.Low, I x14.At.High, .rs (nxs h.nx) 0 (List.length l15)]) ?_ ?_ ?_ h_l17 ?_
   ·exact (b3x ow_o3xx (by intro j hj hl; first | rfl | simp only [go_sem, hl, b4s hj ni_o2_o3xx, b4s hj ni_o3_o3xx, b4s hj ni_o3x_o3xx, b4s hj ni_o3xx_o3xxx]) (by first | omega | exact Nat.le_refl _ | (simp only [go_sem, nxs] <;> omega)))
   ·exact (by simp only [go_sem, ob_o2, lt_o2, ob_o3, lt_o3, ob_o3x, lt_o3x, b8s ow_o3xx, ob_o3xxx, lt_o3xxx, ne_o2_o3, b1z ne_o2_o3, ne_o2_o3x, b1z ne_o2_o3x, ni_o2_o3xx, ne_o2_o3xxx, b1z ne_o2_o3xxx, ne_o3_o3x, b1z ne_o3_o3x, ni_o3_o3xx, ne_o3_o3xxx, b1z ne_o3_o3xxx, ni_o3x_o3xx, ne_o3x_o3xxx, b1z ne_o3x_o3xxx, ni_o3xx_o3xxx, List.length_append, List.map_append])
   ·exact vf9
   simp only [go_sem, s1, s3, s4, ob_o3, lt_o3, ob_o3x, lt_o3x, l3r ow_o3xx, ob_o3xxx, lt_o3xxx, lt_o2, ne_o2_o3, b1z ne_o2_o3, ne_o2_o3x, b1z ne_o2_o3x, ni_o2_o3xx, ne_o2_o3xxx, b1z ne_o2_o3xxx, ne_o3_o3x, b1z ne_o3_o3x, ni_o3_o3xx, ne_o3_o3xxx, b1z ne_o3_o3xxx, ni_o3x_o3xx, ne_o3x_o3xxx, b1z ne_o3x_o3xxx, ni_o3xx_o3xxx, b08 h_x14, b3n h_x14, h_x140, h_x141, b5r v3];refine hK _ _ ?_;clear hK K;refine g9m ?_;have el16 := (r9o h_l16).2;subst el16;by_cases hqk : q_3_1.length = k
   ·refine G43 ?_;simp only [b0s, b02, b0f];refine hK10 _ _ ?_;refine b03 fun K hK => ?_;simp only [go_sem, s4, lt_o2, lt_o3, lt_o3x, lt_o3xxx, Bool.or_eq_false_iff, beq_eq_false_iff_ne, ne_eq, not_false_eq_true, and_self, b5r v3];refine hK _ _ ?_;clear hK K;simp only [b02, b0f];obtain rfl := Option.some.inj hm1;refine ⟨_, rfl, ?_⟩;exact ⟨i2, i3, i3_1, (.rs (nxs (nxs (nxs h.nx))) 0 (List.length (b75 k ic q_3_1 ++ [[]]))), i3_2, (nxs h.nx), s1, s2, s3, (by first | (simp only [go_sem, s4, List.length_append, List.map_append]; done) | rfl), (by simp only [go_sem, Bool.or_eq_false_iff, beq_eq_false_iff_ne, ne_eq, not_false_eq_true, and_self, ob_o2, lt_o2, lt_o3, b8s ow_o3xx, ne_o2_o3, b1z ne_o2_o3, ni_o2_o3xx, List.length_append, List.map_append]), (by simp only [go_sem, lt_o2]), (by simp only [go_sem, Bool.or_eq_false_iff, beq_eq_false_iff_ne, ne_eq, not_false_eq_true, and_self, ob_o3, lt_o3, b8s ow_o3xx, ni_o3_o3xx, List.length_append, List.map_append]), (by simp only [go_sem, lt_o3]), (by simp only [go_sem, Bool.or_eq_false_iff, beq_eq_false_iff_ne, ne_eq, not_false_eq_true, and_self, lt_o3, ob_o3x, lt_o3x, b8s ow_o3xx, ne_o3_o3x, b1z ne_o3_o3x, ni_o3x_o3xx, List.length_append, List.map_append]), (by simp only [go_sem, lt_o3x]), (b2v (rows := List.map (fun r : List AV => r) (b75 k (nxs h.nx) (q_3_1 ++ [Train.mk x14.At l15]))) (by rw [List.map_id_fun', id, H1k (b := ic) hqk]; simp only [go_sem, y68, Bool.or_eq_false_iff, beq_eq_false_iff_ne, ne_eq, not_false_eq_true, and_self, lt_o3, b8s ow_o3xx, List.length_append, List.map_append, List.map_id_fun', id]) (by simp [b75]) vh9), (fun _ => ⟨by rw [G9a hqk]; simp only [go_sem, Bool.or_eq_false_iff, beq_eq_false_iff_ne, ne_eq, not_false_eq_true, and_self, lt_o3, b8s ow_o3xx, List.length_append, List.map_append], by simp only [go_sem], by simp only [nxs]; omega, by simp only [nxs]; omega, by simp only [nxs]; omega, by simp only [nxs]; omega, b1y vi9⟩), (by simp only [go_sem, Bool.or_eq_false_iff, beq_eq_false_iff_ne, ne_eq, not_false_eq_true, and_self, lt_o3, b8s ow_o3xx, ob_o3xxx, lt_o3xxx, ne_o3_o3xxx, b1z ne_o3_o3xxx, ni_o3xx_o3xxx, List.length_append, List.map_append]), (by simp only [go_sem, lt_o3xxx]), ne_o2_o3, ne_o2_o3x, va9, ne_o2_o3xxx, ne_o3_o3x, va9, ne_o3_o3xxx, va9, ne_o3x_o3xxx, va9⟩
   ·refine G9c (id := (nxs (nxs (nxs h.nx)))) (sz := 3) (rows := List.map (fun r : List AV => r) (b75 k ic q_3_1)) (r := b11 (Train.mk x14.At l15)) (raw := [I x14.At.Low, I x14.At.High, .rs (nxs h.nx) 0 (List.length l15)]) (fun j => j == (nxs h.nx)) (by simp only [go_sem, ob_o2, lt_o2, ob_o3, lt_o3, ob_o3x, lt_o3x, b8s ow_o3xx, ob_o3xxx, lt_o3xxx, ne_o2_o3, b1z ne_o2_o3, ne_o2_o3x, b1z ne_o2_o3x, ni_o2_o3xx, ne_o2_o3xxx, b1z ne_o2_o3xxx, ne_o3_o3x, b1z ne_o3_o3x, ni_o3_o3xx, ne_o3_o3xxx, b1z ne_o3_o3xxx, ni_o3x_o3xx, ne_o3x_o3xxx, b1z ne_o3x_o3xxx, ni_o3xx_o3xxx, List.length_append, List.map_append]) (by first | (simp; done) | (simp [nxs] <;> omega)) (.cons (.refl _ (b0e _)) (.cons (.refl _ (b0e _)) (.cons (b29 (f := c16) (l := l15) (id := (nxs h.nx)) (by rw [c3x (by simp)]; simp only [go_sem, ob_o2, lt_o2, ob_o3, lt_o3, ob_o3x, lt_o3x, b8s ow_o3xx, ob_o3xxx, lt_o3xxx, ne_o2_o3, b1z ne_o2_o3, ne_o2_o3x, b1z ne_o2_o3x, ni_o2_o3xx, ne_o2_o3xxx, b1z ne_o2_o3xxx, ne_o3_o3x, b1z ne_o3_o3x, ni_o3_o3xx, ne_o3_o3xxx, b1z ne_o3_o3xxx, ni_o3x_o3xx, ne_o3x_o3xxx, b1z ne_o3x_o3xxx, ni_o3xx_o3xxx, List.length_append, List.map_append]) vg9 E7k G1g) (.nil)))) (c19 _) (fun e he => by rw [List.map_id_fun', id] at he; exact G62 he) (G6v _) ?_;simp only [b0s, b02, b0f];refine hK10 _ _ ?_;refine b03 fun K hK => ?_;simp only [go_sem, s4, lt_o2, lt_o3, lt_o3x, lt_o3xxx, Bool.or_eq_false_iff, beq_eq_false_iff_ne, ne_eq, not_false_eq_true, and_self, b5r v3];refine hK _ _ ?_;clear hK K;simp only [b02, b0f];obtain rfl := Option.some.inj hm1;refine ⟨_, rfl, ?_⟩
    exact ⟨i2, i3, i3_1, (.rs (nxs (nxs (nxs h.nx))) 0 (List.length (b75 k ic q_3_1 ++ [[]]))), i3_2, ic, s1, s2, s3, (by first | (simp only [go_sem, s4, List.length_append, List.map_append]; done) | rfl), (by simp only [go_sem, Bool.or_eq_false_iff, beq_eq_false_iff_ne, ne_eq, not_false_eq_true, and_self, ob_o2, lt_o2, lt_o3, b8s ow_o3xx, ne_o2_o3, b1z ne_o2_o3, ni_o2_o3xx, List.length_append, List.map_append]), (by simp only [go_sem, lt_o2]), (by simp only [go_sem, Bool.or_eq_false_iff, beq_eq_false_iff_ne, ne_eq, not_false_eq_true, and_self, ob_o3, lt_o3, b8s ow_o3xx, ni_o3_o3xx, List.length_append, List.map_append]), (by simp only [go_sem, lt_o3]), (by simp only [go_sem, Bool.or_eq_false_iff, beq_eq_false_iff_ne, ne_eq, not_false_eq_true, and_self, lt_o3, ob_o3x, lt_o3x, b8s ow_o3xx, ne_o3_o3x, b1z ne_o3_o3x, ni_o3x_o3xx, List.length_append, List.map_append]), (by simp only [go_sem, lt_o3x]), (b2v (rows := List.map (fun r : List AV => r) (b75 k ic (q_3_1 ++ [Train.mk x14.At l15]))) (by rw [List.map_id_fun', id, H1j hqk]; simp only [go_sem, Bool.or_eq_false_iff, beq_eq_false_iff_ne, ne_eq, not_false_eq_true, and_self, lt_o3, b8s ow_o3xx, List.length_append, List.map_append, List.map_id_fun', id]) (by simp [b75]) vh9), (fun hlt => by
      obtain ⟨c1, c2, c3, c4, c5, c6, c7⟩ := hic (by simp at hlt; omega)
      exact ⟨by rw [G89 (by simp at hlt; omega)]; simp only [go_sem, Bool.or_eq_false_iff, beq_eq_false_iff_ne, ne_eq, not_false_eq_true, and_self, c1, c2, b1z c3, b1z c4, b1z c5, b1z c6, c7, lt_o3, b8s ow_o3xx, List.length_append, List.map_append], by simp only [go_sem, c2], c3, c4, c5, c6, b1y vi9⟩), (by simp only [go_sem, Bool.or_eq_false_iff, beq_eq_false_iff_ne, ne_eq, not_false_eq_true, and_self, lt_o3, b8s ow_o3xx, ob_o3xxx, lt_o3xxx, ne_o3_o3xxx, b1z ne_o3_o3xxx, ni_o3xx_o3xxx, List.length_append, List.map_append]), (by simp only [go_sem, lt_o3xxx]), ne_o2_o3, ne_o2_o3x, va9, ne_o2_o3xxx, ne_o3_o3x, va9, ne_o3_o3xxx, va9, ne_o3x_o3xxx, va9⟩
  ·rw [b0q hc9] at hm1;simp only [b09, b1b, b1a, c0s, b02, b0f, Nat.reduceEqDiff, not_false_eq_true];obtain rfl := Option.some.inj hm1;obtain rfl := hb7 _ rfl
   try dsimp only at hm0
   exact J6 q_3_1 i2 i3 i3_1 v3 i3_2 ic _ _ s2 s3 ob_o2 lt_o2 ob_o3 lt_o3 ob_o3x lt_o3x ow_o3xx hic ob_o3xxx lt_o3xxx ne_o2_o3 ne_o2_o3x ni_o2_o3xx ne_o2_o3xxx ne_o3_o3x ni_o3_o3xx ne_o3_o3xxx ni_o3x_o3xx ne_o3x_o3xxx ni_o3xx_o3xxx hm0
theorem G6m {k ic : Nat} {l : List Train} {t : Train} (ht : l[k]? = some t) {K : Nat -> List (List AV) -> List AV -> Prop} : @c7j (some (3, b75 k ic l)) k ⟨K⟩ = K 3 (b75 k ic l) (y68 ic t) := by
 have e : (b75 k ic l)[k]? = some (y68 ic t) := by rw [E7n, ht]; simp
 apply propext; constructor
 ·rintro ⟨sz, es, cs, h1, h2, h3⟩
  cases h1
  rw [e] at h2; cases h2; exact h3
 ·exact fun h => ⟨_, _, _, rfl, e, h⟩
theorem G4a {k ic : Nat} {l : List Train} {t : Train} : (b75 k ic l).set k (y68 ic t) = b75 k ic (l.set k t) := by
 apply List.ext_getElem?;intro i;rw [List.getElem?_set, E7n, E7n, List.getElem?_set, E8t];by_cases e : k = i
 ·subst e;rw [if_pos rfl, if_pos rfl];by_cases hk : k < l.length
  ·rw [if_pos hk, if_pos hk]; simp
  ·rw [if_neg hk, if_neg hk]; rfl
 ·rw [if_neg e, if_neg e]
theorem G46 {h : Heap} {k a b n : Nat} {l : List Train} (ha : h.ob a = some (3, b75 k b l)) (hb : h.ob b = some (3, x26 k l)) (hn : n = l.length) : Fz h (.rs a 0 n) (.fs 3 (List.map b11 l)) := by
 subst hn;refine .rs a 0 _ 3 _ _ ha (by rw [E8t]; omega) (by simp) (fun d hd => ?_) fun i j c d h1 h2 => ?_
 ·obtain ⟨t, _, rfl⟩ := List.mem_map.1 hd; rfl
 ·rw [Nat.zero_add] at h1;obtain ⟨e1, he1, hc⟩ := b9m h1;obtain ⟨e2, he2, hd⟩ := b9m h2;rw [E7n] at he1;rw [List.getElem?_map] at he2
  cases hx : l[i]? with
  | none => rw [hx] at he1; cases he1
  | some t =>
   rw [hx] at he1 he2;simp only [Option.map_some, iE9] at he1 he2;subst he2;by_cases e : i = k
   ·rw [if_pos e] at he1;subst he1;match j, hc, hd with
    | 0, hc, hd => cases hc; cases hd; exact .refl _ (.v _)
    | 1, hc, hd => cases hc; cases hd; exact .refl _ (.v _)
    | 2, hc, hd =>
     cases hc; cases hd
     have e3 : x26 k l = List.map c16 t.Crowds := by unfold x26; rw [<- e, hx]; rfl
     rw [e3] at hb;exact b29 (f := c16) (l := t.Crowds) hb rfl E7k G1g
    | j + 3, hc, hd => simp [y68] at hc
   ·rw [if_neg e] at he1;subst he1;rw [hc] at hd; cases hd;exact .refl _ (c19 t c (mG9 hc))
def E9i (x : l06_Less) (t : Train) : Bool := (decide (t.At.Low <= x.At.Low) && decide (x.At.Low <= x.At.High)) && decide (x.At.High <= t.At.High)
def G0d (x : l06_Less) (t : Train) : Bool := ((decide (0 <= x.Crowd) && decide (x.Crowd < (List.length t.Crowds : Int))) && decide (0 <= x.People.Low)) && decide (x.People.Low <= x.People.High)
def E67 (t : Train) (i : Int) : Crowd := (t.Crowds[i.toNat]?).getD default
def E7g (x : l06_Less) (t : Train) : Bool := G0d x t && decide (x.People.High <= (E67 t x.Crowd).People.High)
def u32 (x : l06_Less) (t : Train) : Train :=
 ⟨if E9i x t then x.At else t.At, if E7g x t then t.Crowds.set x.Crowd.toNat ⟨(E67 t x.Crowd).Comb, x.People⟩ else t.Crowds⟩
def x16 (q : Hall) (x : l06_Less) (t : Train) : Hall := { q with Trains := q.Trains.set x.Train.toNat (u32 x t) }
noncomputable def G0b (y9 : (List Int) × Int) (y11 : (List Int) × Int) : Int -> Option (Out Int (Unit ⊕ Bool))
 | i_13 =>
  if decide (i_13 < (List.length y9.1 : Int)) then
   (get y11.1 i_13).bind fun x49 =>
   (get y9.1 i_13).bind fun x50 =>
   if decide (x50 < x49) then
    some (.br (.inr false))
   else
    some (.nx (wr (i_13 + 1)))
  else
   some (.br (.inl ()))
noncomputable def G0a (h_ : Hall) (x : l06_Less) (comb : Int) : Option Bool :=
 (E8q h_).bind fun y4 =>
 (if y4 then some true else (E64 h_).bind fun y5 => some (decide (¬y5 = 0))).bind fun c6 =>
 if ((((c6 || decide (x.Train < 0)) || decide ((List.length h_.Trains : Int) <= x.Train)) || decide (comb < 0)) || decide ((List.length h_.Combs : Int) <= comb)) then
  (E74).bind fun y7 => some y7
 else
  (E9h h_).bind fun q =>
  (get q.Trains x.Train).bind fun t =>
  (E8z h_ comb).bind fun y9 =>
  (E8z (x16 q x t) comb).bind fun y11 =>
  if (((decide (¬y9.2 = 0)) || (decide (¬y11.2 = 0))) || (decide (¬(List.length y9.1 : Int) = h_.Until))) || (decide (¬(List.length y11.1 : Int) = h_.Until)) then
   some false
  else
   (b0w (G0b y9 y11) 0).bind fun
    | (.inl ()) => (E74).bind fun y13 => some y13
    | (.inr r) => some r
def G4m (O : Orac) : Prop := ∀ (h_ : Hall) (x : l06_Less) (comb : Int) (r : Bool) (hm0 : G0a h_ x comb = some r), Fn O "newel/newellaw06.HallsLess" [.agg [.fs 5 (List.map b15 h_.Combs), .fs 3 (List.map b11 h_.Trains), .fs 3 (List.map b20 h_.Shifts), I h_.Until], .agg [I x.Train, I x.Crowd, I x.At.Low, I x.At.High, I x.People.Low, I x.People.High], I comb] (B r)
theorem H0h (hf : Has O "newel/newellaw06.HallsLess" x_l06_HallsLess) (G3y : G13 O) (G30 : G15 O) (G1c : G14 O) (G3z : G0p O) (G1a : G1u O) : G4m O := by
 intro h_ x comb r hm0;unfold G0a at hm0;refine b1i hf rfl (b0a (.agg _ (b0a (b0c fun a _ => c62 a) (b0a (b0c fun a _ => c19 a) (b0a (b0c fun a _ => c69 a) (b0a (b0e _) b0j))))) (b0a (.agg _ (b0a (b0e _) (b0a (b0e _) (b0a (b0e _) (b0a (b0e _) (b0a (b0e _) (b0a (b0e _) b0j))))))) (b0a (b0e _) b0j))) (b0e _) ?_;refine b1c (fun t h => t 0 = .agg [.fs 5 (List.map b15 h_.Combs), .fs 3 (List.map b11 h_.Trains), .fs 3 (List.map b20 h_.Shifts), I h_.Until] /\ t 1 = .agg [I x.Train, I x.Crowd, I x.At.Low, I x.At.High, I x.People.Low, I x.People.High] /\ t 2 = I comb) ⟨rfl, rfl, rfl⟩ fun t h ⟨s0, s1, s2⟩ => ?_;simp only [x_l06_HallsLess];refine b0b fun K hK => ?_;simp only [go_sem, s0, s1];refine hK _ _ ?_;clear hK K;refine b0v ?_;obtain ⟨y4, h_y4, hm0⟩ := b0g hm0;obtain ⟨c6, h_c6, hm0⟩ := b0g hm0;refine b2p (fun t h => t 2 = I comb /\ t 3 = .fp [.fs 5 (List.map b15 h_.Combs), .fs 3 (List.map b11 h_.Trains), .fs 3 (List.map b20 h_.Shifts), I h_.Until] 0 /\ t 4 = .fp [I x.Train, I x.Crowd, I x.At.Low, I x.At.High, I x.People.Low, I x.People.High] 0 /\ t 44 = B ((((c6 || decide (x.Train < 0)) || decide ((List.length h_.Trains : Int) <= x.Train)) || decide (comb < 0)) || decide ((List.length h_.Combs : Int) <= comb))) (fun K hK => ?_) ?_
 ·simp only [go_sem, s2];refine b01 (G3y h_ _ h_y4) ?_;simp only [go_sem, s2];have fin : ∀ (t : Slots) (h : Heap), t 2 = I comb -> True := fun _ _ _ => trivial;refine b0k (fun hg1 => ?_) (fun hg1 => ?_)
  ·simp only [hg1, if_true] at h_c6;obtain rfl := Option.some.inj h_c6;simp only [go_sem, hg1, s2];exact hK _ _ ⟨(by first | (simp only [go_sem, s2]; done) | rfl), vj9, vj9, (by first | (simp only [go_sem, Bool.true_or]; done) | simp [go_sem])⟩
  ·simp only [hg1, fT9, if_false] at h_c6;obtain ⟨y5, h_y5, h_c6⟩ := b0g h_c6;obtain rfl := Option.some.inj h_c6;simp only [go_sem, hg1, s2];refine b01 (G30 h_ _ h_y5) ?_;simp only [go_sem, hg1, s2]
   repeat' (refine b0k (fun _ => ?_) (fun _ => ?_) <;> simp only [go_sem, s2, *])
   all_goals exact hK _ _ ⟨(by first | (simp only [go_sem, s2]; done) | rfl), vj9, vj9, (by first | (simp only [go_sem, Bool.true_or]; done) | simp_all [go_sem])⟩
 ·rintro t h ⟨s2, s3, s4, s44⟩;refine b0i fun K13 hK13 => ?_;simp only [go_sem, s44];refine b0k (fun hc14 => ?_) (fun hc14 => ?_)
  ·rw [b0r hc14] at hm0;obtain ⟨y16, h_y16, hm0⟩ := b0g hm0;refine b0b fun K hK => ?_;simp only [go_sem];refine b01 (G1c _ h_y16) ?_;simp only [go_sem];refine hK _ _ ?_;clear hK K;simp only [b0x, b1p, b2e, b0y];obtain rfl := Option.some.inj hm0;exact b04 vc9 (b0e _)
  ·rw [b0q hc14] at hm0;simp only [b0s, b02, b0f];refine hK13 _ _ ?_;obtain ⟨q, h_q, hm0⟩ := b0g hm0;obtain ⟨tr, h_tr, hm0⟩ := b0g hm0;have h_tr0 := b05 h_tr;have h_tr1 := b06 h_tr;have htk := b8j h_tr;have hkl : x.Train.toNat < q.Trains.length := by omega
   refine b0b fun K hK => ?_;simp only [go_sem, s3];refine H0e G3z hkl h_q ?_;simp only [E77, go_sem, s3];refine hK _ _ ?_;clear hK K;refine b0b fun K hK => ?_;simp only [go_sem, s4, G6m htk, h_tr0, h_tr1, y68];refine hK _ _ ?_;clear hK K
   have hset : q.Trains = q.Trains.set x.Train.toNat tr := by
    apply List.ext_getElem?;intro i;by_cases e : x.Train.toNat = i
    ·subst e; rw [List.getElem?_set_self hkl]; exact htk
    ·rw [List.getElem?_set_ne e]
   refine b0i fun K5 hK5 => ?_
   have J5 : ∀ (sp : Span) (a a1 a2 a3 a7 a8 : Nat) (t : Slots) (h : Heap), t 2 = I comb -> t 3 = .fp [.fs 5 (List.map b15 h_.Combs), .fs 3 (List.map b11 h_.Trains), .fs 3 (List.map b20 h_.Shifts), I h_.Until] 0 -> t 4 = .fp [I x.Train, I x.Crowd, I x.At.Low, I x.At.High, I x.People.Low, I x.People.High] 0 -> t 7 = .rp a7 0 0 -> t 8 = .rp a8 0 0 ->
     h.ob a = some (3, b75 x.Train.toNat a1 (q.Trains.set x.Train.toNat ⟨sp, tr.Crowds⟩)) -> h.ob a1 = some (3, List.map c16 tr.Crowds) -> h.ob a2 = some (5, List.map b15 q.Combs) -> h.ob a3 = some (3, List.map b20 q.Shifts) -> h.ob a7 = some (4, [[.rs a2 0 (List.length q.Combs), .rs a 0 (List.length q.Trains), .rs a3 0 (List.length q.Shifts), I q.Until]]) -> h.ob a8 = some (3, [[I tr.At.Low, I tr.At.High, .rs a1 0 (List.length tr.Crowds)]]) ->
     ¬ a = a1 -> ¬ a1 = a2 -> ¬ a1 = a3 -> ¬ a1 = a7 -> ¬ a1 = a8 -> sp = (if E9i x tr then x.At else tr.At) -> K5 t h := by
    intro sp a a1 a2 a3 a7 a8 t h s2 s3 s4 s7 s8 o0 o1 o2 o3 o7 o8 n01 n12 n13 n17 n18 hsp;refine hK5 _ _ ?_;refine b0i fun K6 hK6 => ?_
    have J6 : ∀ (cr : List Crowd) (t : Slots) (h : Heap), t 2 = I comb -> t 3 = .fp [.fs 5 (List.map b15 h_.Combs), .fs 3 (List.map b11 h_.Trains), .fs 3 (List.map b20 h_.Shifts), I h_.Until] 0 -> t 7 = .rp a7 0 0 ->
     h.ob a = some (3, b75 x.Train.toNat a1 (q.Trains.set x.Train.toNat ⟨sp, tr.Crowds⟩)) -> h.ob a1 = some (3, List.map c16 cr) -> h.ob a2 = some (5, List.map b15 q.Combs) -> h.ob a3 = some (3, List.map b20 q.Shifts) -> h.ob a7 = some (4, [[.rs a2 0 (List.length q.Combs), .rs a 0 (List.length q.Trains), .rs a3 0 (List.length q.Shifts), I q.Until]]) ->
     cr = (if E7g x tr then tr.Crowds.set x.Crowd.toNat ⟨(E67 tr x.Crowd).Comb, x.People⟩ else tr.Crowds) -> K6 t h := by
     intro cr t h s2 s3 s7 o0 o1 o2 o3 o7 hcr;refine hK6 _ _ ?_;have elT : u32 x tr = ⟨sp, cr⟩ := by unfold u32; rw [<- hsp, <- hcr]
     have hcl : cr.length = tr.Crowds.length := by rw [hcr]; split <;> simp
     have hat : (q.Trains.set x.Train.toNat (u32 x tr))[x.Train.toNat]? = some ⟨sp, cr⟩ := by rw [List.getElem?_set, if_pos rfl, if_pos hkl, elT]
     have f0 : h.ob a = some (3, b75 x.Train.toNat a1 (q.Trains.set x.Train.toNat (u32 x tr))) := by
      rw [o0, <- G4a, <- G4a, elT]; simp only [y68, hcl]
     have f1 : h.ob a1 = some (3, x26 x.Train.toNat (q.Trains.set x.Train.toNat (u32 x tr))) := by
      rw [o1]; unfold x26; rw [hat]; rfl
     have fz := G46 (h := h) (n := q.Trains.length) f0 f1 (by simp);obtain ⟨y9, h_y9, hm0⟩ := b0g hm0;obtain ⟨y11, h_y11, hm0⟩ := b0g hm0;refine b0v ?_;refine b0b fun K hK => ?_;simp only [go_sem, s2, s3];refine b01 (G1a h_ comb _ h_y9) ?_;simp only [go_sem, s2, s3];refine hK _ _ ?_;clear hK K;have fF : Frz (.fp [.fs 5 (List.map b15 (x16 q x tr).Combs), .fs 3 (List.map b11 (x16 q x tr).Trains), .fs 3 (List.map b20 (x16 q x tr).Shifts), I (x16 q x tr).Until] 0) := .fp _ _ (b0a (b0c fun a _ => c62 a) (b0a (b0c fun a _ => c19 a) (b0a (b0c fun a _ => c69 a) (b0a (b0e _) b0j))));have oF : ∀ j, j = a \/ j = a1 \/ j = a2 \/ j = a3 \/ j = a7 -> (h.only fun j => j == a || j == a1 || j == a2 || j == a3 || j == a7).ob j = h.ob j := fun j hj => c3x (by rcases hj with rfl | rfl | rfl | rfl | rfl <;> simp);refine d63 (s := 7) (v := .rp a7 0 0) (fun j => j == a || j == a1 || j == a2 || j == a3 || j == a7) (by simp only [go_sem, s7]) (.rp a7 0 0 4 _ [.rs a2 0 (List.length q.Combs), .rs a 0 (List.length q.Trains), .rs a3 0 (List.length q.Shifts), I q.Until] [.fs 5 (List.map b15 (x16 q x tr).Combs), .fs 3 (List.map b11 (x16 q x tr).Trains), .fs 3 (List.map b20 (x16 q x tr).Shifts), I (x16 q x tr).Until] (by rw [oF a7 (by simp)]; exact o7) rfl rfl fun i c d h1 h2 => ?_) fF ?_
     ·match i, h1, h2 with
      | 0, h1, h2 => cases h1; cases h2; exact b29 (f := b15) (l := q.Combs) (by rw [oF a2 (by simp)]; exact o2) rfl c62 G6u
      | 1, h1, h2 => cases h1; cases h2; exact G46 (by rw [oF a (by simp)]; exact f0) (by rw [oF a1 (by simp)]; exact f1) (by simp [x16])
      | 2, h1, h2 => cases h1; cases h2; exact b29 (f := b20) (l := q.Shifts) (by rw [oF a3 (by simp)]; exact o3) rfl c69 H0s
      | 3, h1, h2 => cases h1; cases h2; exact .refl _ (b0e _)
      | i + 4, h1, h2 => simp at h1
     refine b0b fun K hK => ?_;simp only [go_sem, s2];refine b01 (G1a (x16 q x tr) comb _ h_y11) ?_;simp only [go_sem, s2];refine hK _ _ ?_;clear hK K;refine b0v ?_;refine b2p (fun t h => t 9 = .fs 1 (List.map eI y9.1) /\ t 11 = .fs 1 (List.map eI y11.1) /\ t 166 = B ((((decide (¬y9.2 = 0)) || (decide (¬y11.2 = 0))) || (decide (¬(List.length y9.1 : Int) = h_.Until))) || (decide (¬(List.length y11.1 : Int) = h_.Until)))) (fun K hK => ?_) ?_
     ·simp only [go_sem, s3]
      repeat' (refine b0k (fun _ => ?_) (fun _ => ?_) <;> simp only [go_sem, s3, *])
      all_goals exact hK _ _ ⟨vj9, vj9, (by first | (simp only [go_sem, Bool.true_or]; done) | simp_all [go_sem])⟩
     rintro t h ⟨s9, s11, s166⟩;refine b0i fun K26 hK26 => ?_;simp only [go_sem, s166];refine b0k (fun hc27 => ?_) (fun hc27 => ?_)
     ·rw [b0r hc27] at hm0;refine b0b fun K hK => ?_;simp only [go_sem];refine hK _ _ ?_;clear hK K;simp only [b0x, b1p, b2e, b0y];obtain rfl := Option.some.inj hm0;exact b04 vc9 (b0e _)
     rw [b0q hc27] at hm0;simp only [b0s, b02, b0f];refine hK26 _ _ ?_;refine b0v ?_;refine b0b fun K hK => ?_;simp only [go_sem];refine hK _ _ ?_;clear hK K;refine b0i fun K31 hK31 => ?_;simp only [b0u];obtain ⟨b43, hl43, hm0⟩ := b0g hm0;refine b1j hl43 (fun | i_13, t, h => t 9 = .fs 1 (List.map eI y9.1) /\ t 11 = .fs 1 (List.map eI y11.1) /\ t 13 = I i_13) ?_ ?_
     ·exact ⟨(by simp only [go_sem, s9]), (by simp only [go_sem, s11]), vj9⟩
     rintro i_13 o t h ⟨s9, s11, s13⟩ hm1 hb43;simp only [G0b] at hm1;rw [G7x];refine b0v ?_;refine b0b fun K hK => ?_;simp only [go_sem, s9, s13];refine hK _ _ ?_;clear hK K;refine b0i fun K44 hK44 => ?_;simp only [go_sem];refine b0k (fun hc45 => ?_) (fun hc45 => ?_)
     ·rw [b0r hc45] at hm1;simp only [b0s, b02, b0f];refine hK44 _ _ ?_;refine b0i fun K46 hK46 => ?_;simp only [b0u];obtain ⟨x49, h_x49, hm1⟩ := b0g hm1;have h_x490 := b05 h_x49;have h_x491 := b06 h_x49;obtain ⟨x50, h_x50, hm1⟩ := b0g hm1;have h_x500 := b05 h_x50;have h_x501 := b06 h_x50;refine b0b fun K hK => ?_;simp only [go_sem, s9, s11, s13, b08 h_x49, b3n h_x49, h_x490, h_x491, b08 h_x50, b3n h_x50, h_x500, h_x501];refine hK _ _ ?_;clear hK K;simp only [go_sem];refine b0k (fun hc51 => ?_) (fun hc51 => ?_)
      ·rw [b0r hc51] at hm1;refine b0b fun K hK => ?_;simp only [go_sem];refine hK _ _ ?_;clear hK K;simp only [b0x, b1p, b2e, b0y];obtain rfl := Option.some.inj hm1;obtain rfl := hb43 _ rfl
       try dsimp only at hm0
       obtain rfl := Option.some.inj hm0;exact b04 vc9 (b0e _)
      ·rw [b0q hc51] at hm1;simp only [b0s, b02, b0f];refine hK46 _ _ ?_;refine b03 fun K hK => ?_;simp only [go_sem, s13];refine hK _ _ ?_;clear hK K;simp only [b02, b0f];obtain rfl := Option.some.inj hm1;refine ⟨_, rfl, ?_⟩;exact ⟨s9, s11, (by first | (simp only [go_sem, s13, List.length_append, List.map_append]; done) | rfl)⟩
     ·rw [b0q hc45] at hm1;simp only [b09, b1b, b1a, c0s, b02, b0f, Nat.reduceEqDiff, not_false_eq_true];obtain rfl := Option.some.inj hm1;obtain rfl := hb43 _ rfl
      try dsimp only at hm0
      refine hK31 _ _ ?_;obtain ⟨y13, h_y13, hm0⟩ := b0g hm0;refine b0b fun K hK => ?_;simp only [go_sem];refine b01 (G1c _ h_y13) ?_;simp only [go_sem];refine hK _ _ ?_;clear hK K;simp only [b0x, b1p, b2e, b0y];obtain rfl := Option.some.inj hm0;exact b04 vc9 (b0e _)
    refine b2p (fun t' h' => h' = h /\ t' 2 = t 2 /\ t' 3 = t 3 /\ t' 4 = t 4 /\ t' 7 = t 7 /\ t' 8 = t 8 /\ t' 126 = B (E7g x tr)) (fun K hK => ?_) ?_
    ·by_cases hcr : 0 <= x.Crowd /\ x.Crowd < (List.length tr.Crowds : Int)
     ·have hcg : get tr.Crowds x.Crowd = some (E67 tr x.Crowd) := by
       unfold get E67;rw [if_pos hcr.1, gG9 (show x.Crowd.toNat < tr.Crowds.length by omega)]; rfl
      have e1 := hcr.1;have e2 := hcr.2;have el : E7g x tr = ((decide (0 <= x.People.Low) && decide (x.People.Low <= x.People.High)) && decide (x.People.High <= (E67 tr x.Crowd).People.High)) := by unfold E7g G0d; simp [e1, e2]
      rw [el] at hK;simp only [go_sem, s4, s8, o8, e1, e2, decide_true]
      repeat' (refine b0k (fun _ => ?_) (fun _ => ?_) <;> simp only [go_sem, s4, s8, o8, o1, e1, e2, b08 hcg, b3n hcg, *])
      all_goals exact hK _ _ ⟨rfl, rfl, rfl, rfl, rfl, rfl, (by first | (simp only [go_sem, Bool.true_or]; done) | simp_all [go_sem])⟩
     ·have el : E7g x tr = false := by
       unfold E7g G0d;by_cases e1 : 0 <= x.Crowd
       ·have e2 : ¬ x.Crowd < (List.length tr.Crowds : Int) := fun h => hcr ⟨e1, h⟩
        simp [e2]
       ·simp [e1]
      rw [el] at hK;by_cases e1 : 0 <= x.Crowd
      ·have e2 : ¬ x.Crowd < (List.length tr.Crowds : Int) := fun h => hcr ⟨e1, h⟩
       simp only [go_sem, s4, s8, o8, e1, e2, decide_true, decide_false];exact hK _ _ ⟨rfl, rfl, rfl, rfl, rfl, rfl, (by first | (simp only [go_sem]; done) | simp_all [go_sem])⟩
      ·simp only [go_sem, s4, s8, o8, e1, decide_false];exact hK _ _ ⟨rfl, rfl, rfl, rfl, rfl, rfl, (by first | (simp only [go_sem]; done) | simp_all [go_sem])⟩
    rintro t' h' ⟨rfl, q2, q3, q4, q7, q8, q126⟩;rw [s2] at q2; rw [s3] at q3; rw [s4] at q4; rw [s7] at q7; rw [s8] at q8;simp only [go_sem, q126];refine b0k (fun hb => ?_) (fun hb => ?_)
    ·have hc0 : 0 <= x.Crowd /\ x.Crowd < (List.length tr.Crowds : Int) := by
      unfold E7g G0d at hb;simp only [Bool.and_eq_true, decide_eq_true_eq] at hb;omega
     have e1 := hc0.1;have e2 := hc0.2
     have hcg : get tr.Crowds x.Crowd = some (E67 tr x.Crowd) := by
      unfold get E67;rw [if_pos hc0.1, gG9 (show x.Crowd.toNat < tr.Crowds.length by omega)]; rfl
     refine b03 fun K hK => ?_;simp only [go_sem, q4, q8, o8, o1, e1, e2, b08 hcg, b3n hcg];refine hK _ _ ?_;clear hK K;simp only [b0f];refine J6 (tr.Crowds.set x.Crowd.toNat ⟨(E67 tr x.Crowd).Comb, x.People⟩) _ _ (by simp only [go_sem, q2]) (by simp only [go_sem, q3]) (by simp only [go_sem, q7]) ?_ ?_ ?_ ?_ ?_ (by rw [if_pos hb])
     ·simp only [go_sem, n01, b1z n01, o0]
     ·simp only [go_sem]
     ·simp only [go_sem, n12, b1z n12, o2]
     ·simp only [go_sem, n13, b1z n13, o3]
     ·simp only [go_sem, n17, b1z n17, o7]
    ·simp only [b0s, b0f];exact J6 tr.Crowds _ _ q2 q3 q7 o0 o1 o2 o3 o7 (by rw [hb]; rfl)
   refine b2p (fun t' h' => h'.ob h.nx = some (3, b75 x.Train.toNat (nxs h.nx) q.Trains) /\ h'.ob (nxs h.nx) = some (3, x26 x.Train.toNat q.Trains) /\ h'.ob (nxs (nxs h.nx)) = some (5, List.map b15 q.Combs) /\ h'.ob (nxs (nxs (nxs h.nx))) = some (3, List.map b20 q.Shifts) /\ h'.ob (nxs (nxs (nxs (nxs h.nx)))) = some (4, [[.rs (nxs (nxs h.nx)) 0 (List.length q.Combs), .rs h.nx 0 (List.length q.Trains), .rs (nxs (nxs (nxs h.nx))) 0 (List.length q.Shifts), I q.Until]]) /\ h'.ob (nxs (nxs (nxs (nxs (nxs h.nx))))) = some (3, [[I tr.At.Low, I tr.At.High, .rs (nxs h.nx) 0 (List.length tr.Crowds)]]) /\
    t' 2 = I comb /\ t' 3 = .fp [.fs 5 (List.map b15 h_.Combs), .fs 3 (List.map b11 h_.Trains), .fs 3 (List.map b20 h_.Shifts), I h_.Until] 0 /\ t' 4 = .fp [I x.Train, I x.Crowd, I x.At.Low, I x.At.High, I x.People.Low, I x.People.High] 0 /\ t' 7 = .rp (nxs (nxs (nxs (nxs h.nx)))) 0 0 /\ t' 8 = .rp (nxs (nxs (nxs (nxs (nxs h.nx))))) 0 0 /\ t' 78 = B (E9i x tr)) (fun K hK => ?_) ?_
   ·simp only [go_sem, s4]
    repeat' (refine b0k (fun hg => ?_) (fun hg => ?_) <;> simp only [go_sem, s4, hg])
    all_goals exact hK _ _ ⟨vh9, vh9, vh9, vh9, vh9, vh9, (by simp only [go_sem, s2]), (by simp only [go_sem, s3]), (by simp only [go_sem, s4]), vh9, vh9, (by clear hset; unfold E9i; first | (simp only [go_sem, Bool.true_or]; done) | (simp_all [go_sem]; done) | (simp_all [go_sem] <;> omega))⟩
   rintro t' h' ⟨o0, o1, o2, o3, o7, o8, q2, q3, q4, q7, q8, q78⟩;have ec : x26 x.Train.toNat q.Trains = List.map c16 tr.Crowds := by unfold x26; rw [htk]; rfl
   rw [ec] at o1;simp only [go_sem, q78];refine b0k (fun hb => ?_) (fun hb => ?_)
   ·refine b03 fun K hK => ?_;simp only [go_sem, q4, q7, o7, o0, G6m htk, h_tr0, h_tr1, y68];refine hK _ _ ?_;clear hK K;simp only [b0f];refine J5 x.At h.nx (nxs h.nx) (nxs (nxs h.nx)) (nxs (nxs (nxs h.nx))) (nxs (nxs (nxs (nxs h.nx)))) (nxs (nxs (nxs (nxs (nxs h.nx))))) _ _ (by simp only [go_sem, q2]) (by simp only [go_sem, q3]) (by simp only [go_sem, q4]) (by simp only [go_sem, q7]) (by simp only [go_sem, q8]) ?_ ?_ ?_ ?_ ?_ ?_ vi9 vi9 vi9 vi9 vi9 (by rw [if_pos hb])
    ·rw [<- G4a]; simp only [go_sem, y68]
    ·simp only [go_sem, o1]
    ·simp only [go_sem, o2]
    ·simp only [go_sem, o3]
    ·simp only [go_sem, o7]
    ·simp only [go_sem, o8]
   ·simp only [b0s, b0f];refine J5 tr.At h.nx (nxs h.nx) (nxs (nxs h.nx)) (nxs (nxs (nxs h.nx))) (nxs (nxs (nxs (nxs h.nx)))) (nxs (nxs (nxs (nxs (nxs h.nx))))) _ _ q2 q3 q4 q7 q8 ?_ o1 o2 o3 o7 o8 vi9 vi9 vi9 vi9 vi9 (by rw [hb]; rfl);have e9 : (⟨tr.At, tr.Crowds⟩ : Train) = tr := rfl;rw [e9, <- hset]; exact o0
end Go.Nw.HM
