/- Plain laws on the models. -/
import Derived.Test.YtfahaljhgfjooaaDoorP5
import Derived.Test.YtfahaljhgfjooaaDoorNwFirst
set_option linter.all false
namespace Go.Nw.KM
noncomputable section
section
variable {m : Machine} {c : List (List Literal)} {hd : Nat -> Int}
theorem d73 {s : S3} (hg : Good m s) (ht : Tr m c hd s) (hl : s.1.length <= 768) {w : control_walk} {g : r04_graph} (hw : w.from_ = s.2.1 /\ w.by_ = s.2.2) (hwp : w.places = s.1) (hgr : g.back = s.2.1 /\ g.input = s.2.2) (hgp : g.places = s.1)
  {wanted : Int -> Option Bool} {p : Nat -> Bool} (hwant : ∀ k : Nat, k < s.1.length -> wanted k = some (p k)) :
  ∃ r, b9e w wanted = some r /\ r.1.length <= 768 /\
   (∀ (f : Int -> Option (Out Int (Unit ⊕ ((List Int) × Bool)))), (∀ k : Nat, k < s.1.length -> f k = (if p k = true then (b4c g k).bind fun y => some (.br (.inr (y, true))) else some (.nx ((k : Int) + 1)))) -> f (s.1.length : Int) = some (.br (.inl ())) ->
    (b0w f 0).bind (fun | (.inl ()) => some ([], false) | (.inr r') => some r') = some r) /\
   ((r = ([], false) /\ ∀ k, k < s.1.length -> p k = false) \/ ∃ (k : Nat) (q : Place) (P : List Nat), r = (b27 P, true) /\ s.1[k]? = some q /\ p k = true /\ (∀ j, j < k -> p j = false) /\ o8f m c hd zero P q /\ P.length <= k /\ b4c g k = some (b27 P)) := by
 have hrun := g2z hg ht hl w g hw hgr
 have run2 : ∀ k : Nat, k < s.1.length -> ∃ P : List Nat, b71 w k = some (b27 P) /\ b4c g k = some (b27 P) /\ P.length <= k /\ ∃ q, s.1[k]? = some q /\ o8f m c hd zero P q := hrun
 obtain ⟨R, hR⟩ : ∃ R : Nat -> List Nat, ∀ k : Nat, k < s.1.length -> b71 w k = some (b27 (R k)) /\ b4c g k = some (b27 (R k)) /\ (R k).length <= k /\ ∃ q, s.1[k]? = some q /\ o8f m c hd zero (R k) q :=
  ⟨fun k => if h : k < s.1.length then (run2 k h).choose else [], fun k h => by dsimp only; rw [dif_pos h]; exact (run2 k h).choose_spec⟩
 have e1 := c7s (f := b9f w wanted) (n := s.1.length) (p := p) (e := fun k => .inr (b27 (R k), true)) (u := .inl ()) (fun t h hp => by
   unfold b9f
   simp only [hwp, Int.ofNat_lt, h, decide_true, if_true, hwant t h, bS9, hp, (hR t h).1]) (fun t h hp => by
   unfold b9f
   simp only [hwp, Int.ofNat_lt, h, decide_true, if_true, hwant t h, bS9, hp, fT9, if_false, b2r h (b1o (by omega))]) (by
   unfold b9f
   simp only [hwp, Int.lt_irrefl, decide_false, fT9, if_false])
 have e2 : ∀ (f : Int -> Option (Out Int (Unit ⊕ ((List Int) × Bool)))), (∀ k : Nat, k < s.1.length -> f k = (if p k = true then (b4c g k).bind fun y => some (.br (.inr (y, true))) else some (.nx ((k : Int) + 1)))) -> f (s.1.length : Int) = some (.br (.inl ())) ->
   b0w f 0 = some (match b5q s.1.length p with | some t => .inr (b27 (R t), true) | none => .inl ()) := fun f hf hfin => c7s (p := p) (fun t h hp => by
   rw [hf t h, if_pos hp, (hR t h).2.1]; rfl) (fun t h hp => by rw [hf t h, if_neg (by rw [hp]; simp)]) hfin
 unfold b9e c56
 rw [e1, bS9]
 cases hf : b5q s.1.length p with
 | none =>
  refine ⟨([], false), rfl, by simp, fun f h1 h2 => by rw [e2 f h1 h2, hf]; rfl, .inl ⟨rfl, d72.1 hf⟩⟩
 | some k =>
  obtain ⟨h1, h2, h3⟩ := j00 hf
  obtain ⟨_, r2, r3, q, r4, r5⟩ := hR k h1
  exact ⟨(b27 (R k), true), rfl, by rw [g0o]; omega, fun f h1 h2 => by rw [e2 f h1 h2, hf]; rfl, .inr ⟨k, q, R k, rfl, r4, h2, h3, r5, r3, r2⟩⟩
def d5x (m : Machine) (c never : List (List Literal)) (hd : Nat -> Int) (r : List Int × Bool) : Prop :=
 ∃ K, End m c hd K /\ ((r = ([], false) /\ ∀ q ∈ (b0h m c hd K).1, b46 m q 0 never = false) \/
  ∃ (k : Nat) (q : Place) (P : List Nat), r = (b27 P, true) /\ (b0h m c hd K).1[k]? = some q /\ b46 m q 0 never = true /\ (∀ (j : Nat) q', j < k -> (b0h m c hd K).1[j]? = some q' -> b46 m q' 0 never = false) /\ o8f m c hd zero P q /\ P.length <= k /\ b4c ⟨(b0h m c hd K).1, (b0h m c hd K).2.1, (b0h m c hd K).2.2⟩ k = some (b27 P))
theorem g6v (hm : OkM m) {ins ins' : Bool} (hc : b2s m ins c) {never : List (List Literal)} (hn : b2s m ins' never) {heard : Int -> Option Int} (hh : ∀ x : Nat, x < 2 ^ m.Inputs.length -> heard x = some (hd x)) {inp val : Int} (hh' : ∀ x : Nat, x < 2 ^ m.Inputs.length -> b6a x inp val = some (hd x)) :
  ∃ r g, c1t ⟨⟨m⟩⟩ c never heard = some r /\ b8z m c inp val = some g /\ c1x g m never = some r /\ r.1.length <= 768 /\ d5x m c never hd r := by
 obtain ⟨K, hK⟩ := g2u (c := c) (hd := hd) hm
 have hg := b59 (c := c) (hd := hd) hm K
 have ht := d4h (c := c) (hd := hd) hm K
 have hl := c0q hm hg.n hg.o
 have hp : ∀ k : Nat, k < (b0h m c hd K).1.length -> ∃ q, (b0h m c hd K).1[k]? = some q /\ OkP m q := fun k hk => by
  obtain ⟨q, hq⟩ := b3b hk
  exact ⟨q, hq, hg.o q (b1d.2 ⟨k, hq⟩)⟩
 obtain ⟨r, h1, h2, h3, h4⟩ := d73 (w := b4a m c hd K) (g := ⟨(b0h m c hd K).1, (b0h m c hd K).2.1, (b0h m c hd K).2.2⟩) hg ht hl ⟨rfl, rfl⟩ rfl ⟨rfl, rfl⟩ rfl
  (wanted := fun z5 => b9g z5 ⟨⟨m⟩⟩ never (b4a m c hd K)) (p := fun k => b46 m ((b0h m c hd K).1.getD k zero) 0 never) (fun k hk => by
   obtain ⟨q, hq, ho⟩ := hp k hk
   unfold b9g b4a
   simp only [b1h hq, bS9, c5w hm.z ho.s hn, List.getD_eq_getElem?_getD, hq, Option.getD_some])
 refine ⟨r, _, ?_, d7v hm hc hh' hK, ?_, h2, K, hK, ?_⟩
 ·unfold c1t
  rw [d7u hm hc hh hK, bS9, h1]; rfl
 ·unfold c1x c6d
  refine h3 _ (fun k hk => ?_) ?_
  ·obtain ⟨q, hq, ho⟩ := hp k hk
   unfold c6c
   simp only [Int.ofNat_lt, hk, decide_true, if_true, b1h hq, bS9, c5x hm.z ho.s hn, List.getD_eq_getElem?_getD, hq, Option.getD_some, b2r hk (b1o (by omega))]
  ·unfold c6c
   simp only [Int.lt_irrefl, decide_false, fT9, if_false]
 ·rcases h4 with ⟨rfl, h5⟩ | ⟨k, q, P, rfl, h6, h7, h8, h9, h10, h11⟩
  ·refine .inl ⟨rfl, fun q hq => ?_⟩
   obtain ⟨k, hk⟩ := b1d.1 hq
   have := h5 k (b1k hk)
   simpa only [List.getD_eq_getElem?_getD, hk, Option.getD_some] using this
  ·refine .inr ⟨k, q, P, rfl, h6, ?_, fun j q' hj hq' => ?_, h9, h10, h11⟩
   ·simpa only [List.getD_eq_getElem?_getD, h6, Option.getD_some] using h7
   ·have := h8 j hj
    simpa only [List.getD_eq_getElem?_getD, hq', Option.getD_some] using this
end
end
end Go.Nw.KM
namespace Go.Nw.KM
noncomputable section
abbrev idn : Nat -> Int := fun x => (x : Int)
section
variable (m : Machine) (c : List (List Literal)) (P : List Place)
def hit (cur : List Bool) (i : Nat) : Bool := (List.range (2 ^ m.Inputs.length)).any fun j => b22 m (P.getD i zero) j c && cur.getD (P.idxOf (nxt m (P.getD i zero) (idn j))) false
def stp (s : List Bool × Bool) (i : Nat) : List Bool × Bool := if s.1.getD i false = false /\ hit m c P s.1 i = true then (s.1.set i true, true) else s
def b13 (s : List Bool × Bool) : Nat -> List Bool × Bool
 | 0 => s
 | k + 1 => stp m c P (b13 s k) k
end
section
variable {m : Machine} {c : List (List Literal)} {P : List Place}
theorem l5v (s : List Bool × Bool) (i : Nat) : (stp m c P s i).1.length = s.1.length := by unfold stp; split <;> simp
theorem c0p (s : List Bool × Bool) : ∀ k, (b13 m c P s k).1.length = s.1.length
 | 0 => rfl
 | k + 1 => by unfold b13; rw [l5v, c0p s k]
theorem b7a {l : List Bool} {i : Nat} (h : i < l.length) : get l (i : Int) = some (l.getD i false) := by
 obtain ⟨x, hx⟩ := b3b h
 rw [b1h hx, List.getD_eq_getElem?_getD, hx]; rfl
def cnt (l : List Bool) : Nat := l.count false
theorem g9b {l : List Bool} {i : Nat} (h : l.getD i false = false) (hi : i < l.length) : cnt (l.set i true) < cnt l := by
 unfold cnt
 rw [List.count_set hi]
 obtain ⟨x, hx⟩ := b3b hi
 rw [List.getD_eq_getElem?_getD, hx] at h
 simp only [Option.getD_some] at h
 subst h
 have e : l[i] = false := by have := gG9 hi; rw [this] at hx; exact Option.some.inj hx
 have : 0 < l.count false := List.count_pos_iff.2 (b1d.2 ⟨i, hx⟩)
 simp only [e]
 simp
 omega
theorem g3i {s : List Bool × Bool} {i : Nat} (hi : i < s.1.length) : cnt (stp m c P s i).1 + (if (stp m c P s i).2 = true /\ s.2 = false then 1 else 0) <= cnt s.1 /\ ((stp m c P s i).2 = false -> stp m c P s i = s) /\ (s.2 = true -> (stp m c P s i).2 = true) := by
 unfold stp
 split
 ·rename_i h
  have := g9b h.1 hi
  refine ⟨?_, fun h => by simp at h, fun _ => rfl⟩
  simp only; split <;> omega
 ·refine ⟨?_, fun _ => rfl, fun h => h⟩
  split
  ·rename_i h; rw [h.1] at h; exact absurd h.2 (by simp)
  ·omega
theorem c73 {cur : List Bool} : ∀ k, k <= cur.length -> (cnt (b13 m c P (cur, false) k).1 + (if (b13 m c P (cur, false) k).2 = true then 1 else 0) <= cnt cur) /\ ((b13 m c P (cur, false) k).2 = false -> b13 m c P (cur, false) k = (cur, false))
 | 0, _ => by simp [b13]
 | k + 1, hk => by
  obtain ⟨h1, h2⟩ := c73 (cur := cur) k (by omega)
  have hl := c0p (m := m) (c := c) (P := P) (cur, false) k
  simp only at hl
  obtain ⟨h3, h4, h5⟩ := g3i (m := m) (c := c) (P := P) (s := b13 m c P (cur, false) k) (i := k) (by omega)
  unfold b13
  refine ⟨?_, fun h => ?_⟩
  ·cases hb : (b13 m c P (cur, false) k).2 with
   | true => rw [hb] at h1; simp only [if_true] at h1; split <;> omega
   | false =>
    rw [hb] at h1 h3
    simp only [fT9, if_false, and_true, Nat.add_zero] at h1 h3
    omega
  ·have e := h4 h
   rw [e] at h ⊢
   exact h2 h
end
def d17 (m : Machine) (c rest : List (List Literal)) (p : Place) : Prop := ∃ l q, o8f m c idn p l q /\ b46 m q 0 rest = true
structure Calm (m : Machine) (c rest : List (List Literal)) (P : List Place) (cur : List Bool) : Prop where
 n : cur.length = P.length
 s : ∀ i, i < P.length -> cur.getD i false = true -> d17 m c rest (P.getD i zero)
 r : ∀ i, i < P.length -> b46 m (P.getD i zero) 0 rest = true -> cur.getD i false = true
section
variable {m : Machine} {c rest : List (List Literal)} {P : List Place}
theorem j1v {q : Place} (h : q ∈ P) : P.getD (P.idxOf q) zero = q := by
 rw [List.getD_eq_getElem?_getD, d2b h]; rfl
theorem l5u (hcl : ∀ (i j : Nat), i < P.length -> j < 2 ^ m.Inputs.length -> b22 m (P.getD i zero) j c = true -> nxt m (P.getD i zero) (idn j) ∈ P) {s : List Bool × Bool} (h : Calm m c rest P s.1) {i : Nat} (hi : i < P.length) : Calm m c rest P (stp m c P s i).1 := by
 unfold stp
 split
 case isFalse => exact h
 rename_i hh
 refine ⟨by simp [h.n], fun k hk hc => ?_, fun k hk hr => ?_⟩
 ·by_cases e : k = i
  ·subst e
   obtain ⟨j, hj, hj2⟩ := List.any_eq_true.1 hh.2
   have hj := List.mem_range.1 hj
   simp only [Bool.and_eq_true] at hj2
   have hm := hcl k j hi hj hj2.1
   obtain ⟨l, q, g1, g2⟩ := h.s _ (List.idxOf_lt_length_iff.2 hm) hj2.2
   rw [j1v hm] at g1
   exact ⟨j :: l, q, ⟨hj, hj2.1, g1⟩, g2⟩
  ·refine h.s k hk ?_
   simp only [List.getD_eq_getElem?_getD] at hc ⊢
   rw [List.getElem?_set, if_neg (fun x => e x.symm)] at hc
   exact hc
 ·have h1 := h.r k hk hr
  simp only [List.getD_eq_getElem?_getD] at h1 ⊢
  rw [List.getElem?_set]
  split
  ·rename_i e; subst e; rw [if_pos (by rw [h.n]; exact hi)]; rfl
  ·exact h1
theorem g2k (hcl : ∀ (i j : Nat), i < P.length -> j < 2 ^ m.Inputs.length -> b22 m (P.getD i zero) j c = true -> nxt m (P.getD i zero) (idn j) ∈ P) {s : List Bool × Bool} (h : Calm m c rest P s.1) : ∀ k, k <= P.length -> Calm m c rest P (b13 m c P s k).1
 | 0, _ => h
 | k + 1, hk => by unfold b13; exact l5u hcl (g2k hcl h k (by omega)) (by omega)
theorem g2l {cur : List Bool} (hn : cur.length = P.length) (h : (b13 m c P (cur, false) P.length).2 = false) : ∀ i, i < P.length -> cur.getD i false = false -> hit m c P cur i = false := by
 have key : ∀ k, k <= P.length -> (b13 m c P (cur, false) k).2 = false -> ∀ i, i < k -> cur.getD i false = false -> hit m c P cur i = false := by
  intro k
  induction k with
  | zero => intro _ _ i hi; omega
  | succ k ih =>
   intro hk hf i hi hc
   have hl := c0p (m := m) (c := c) (P := P) (cur, false) k
   obtain ⟨_, h4, h5⟩ := g3i (m := m) (c := c) (P := P) (s := b13 m c P (cur, false) k) (i := k) (by simp only at hl; omega)
   unfold b13 at hf
   have hfk : (b13 m c P (cur, false) k).2 = false := by
    cases hb : (b13 m c P (cur, false) k).2 with
    | false => rfl
    | true => rw [h5 hb] at hf; cases hf
   by_cases e : i = k
   ·subst e
    rw [(c73 (m := m) (c := c) (P := P) (cur := cur) i (by omega)).2 hfk] at hf
    unfold stp at hf
    cases hh : hit m c P cur i with
    | false => rfl
    | true => rw [if_pos ⟨hc, hh⟩] at hf; cases hf
   ·exact ih (by omega) hfk i (by omega) hc
 exact key P.length (Nat.le_refl _) h
end
section
variable {m : Machine} {c rest : List (List Literal)} {K : Nat}
theorem d1q (hK : End m c idn K) : (b0h m c idn K).1.length = K := by
 obtain ⟨h0, h1, h2⟩ := hK
 have hz : 0 < (b0h m c idn K).1.length := Nat.lt_of_lt_of_le (by simp [b0h]) (d4g (m := m) (c := c) (hd := idn) (Nat.zero_le K)).length_le
 have h3 := h1 (K - 1) (by omega)
 have h4 := (d4g (m := m) (c := c) (hd := idn) (show K - 1 <= K by omega)).length_le
 omega
theorem c6w (hK : End m c idn K) (i j : Nat) (hi : i < (b0h m c idn K).1.length) (hj : j < 2 ^ m.Inputs.length) (ha : b22 m ((b0h m c idn K).1.getD i zero) j c = true) : nxt m ((b0h m c idn K).1.getD i zero) (idn j) ∈ (b0h m c idn K).1 := by
 obtain ⟨p, hp⟩ := b3b hi
 have e : (b0h m c idn K).1.getD i zero = p := by rw [List.getD_eq_getElem?_getD, hp]; rfl
 rw [e] at ha ⊢
 exact closed hp (by rw [d1q hK] at hi; exact hi) ha hj
theorem l4t (hm : OkM m) (hK : End m c idn K) {cur : List Bool} (hn : cur.length = (b0h m c idn K).1.length) {i : Nat} (hi : i < (b0h m c idn K).1.length) :
  c47 (tab (2 ^ m.Inputs.length) (rv m c idn (b0h m c idn K).1 ((b0h m c idn K).1.getD i zero))) (fun z36 => b60 z36 cur) = some (hit m c (b0h m c idn K).1 cur i) := by
 have hpow := p2a hm.z
 obtain ⟨b, h1, h2⟩ := c20 (g := c47 (tab (2 ^ m.Inputs.length) (rv m c idn (b0h m c idn K).1 ((b0h m c idn K).1.getD i zero))) (fun z36 => b60 z36 cur)) (s := tab (2 ^ m.Inputs.length) (rv m c idn (b0h m c idn K).1 ((b0h m c idn K).1.getD i zero))) (f := fun z36 => b60 z36 cur) (p := fun z => 0 <= z /\ cur.getD z.toNat false = true) rfl (b1o (by rw [b3y]; omega)) (fun x hx => by
  obtain ⟨j, hj, rfl⟩ := g3k hx
  unfold b60 rv
  split
  ·rename_i ha
   have hlt := List.idxOf_lt_length_iff.2 (c6w hK i j hi hj ha)
   rw [<- hn] at hlt
   rw [if_pos (by simp), b7a hlt]
   exact ⟨_, rfl, by simp⟩
  ·exact ⟨false, rfl, by simp⟩)
 rw [h1]
 congr 1
 rw [Bool.eq_iff_iff, h2]
 unfold hit
 rw [List.any_eq_true]
 constructor
 ·rintro ⟨x, hx, h3, h4⟩
  obtain ⟨j, hj, rfl⟩ := g3k hx
  refine ⟨j, List.mem_range.2 hj, ?_⟩
  unfold rv at h3 h4
  by_cases ha : b22 m ((b0h m c idn K).1.getD i zero) j c = true
  ·rw [if_pos ha] at h4
   rw [ha, Bool.true_and]; simpa using h4
  ·rw [if_neg ha] at h3; omega
 ·rintro ⟨j, hj, h3⟩
  simp only [Bool.and_eq_true] at h3
  have hj := List.mem_range.1 hj
  refine ⟨_, List.mem_map.2 ⟨j, List.mem_range.2 hj, rfl⟩, ?_⟩
  unfold rv
  rw [if_pos h3.1]
  exact ⟨by omega, by simpa using h3.2⟩
theorem d4m (hm : OkM m) (hK : End m c idn K) {cur : List Bool} (hn : cur.length = (b0h m c idn K).1.length) :
  b0w (b9u (b4a m c idn K)) (cur, false, 0) = some ((b13 m c (b0h m c idn K).1 (cur, false) (b0h m c idn K).1.length).1, (b13 m c (b0h m c idn K).1 (cur, false) (b0h m c idn K).1.length).2) := by
 have hl := d1q hK
 refine b4h (f := b9u (b4a m c idn K)) (b0h m c idn K).1.length (fun (s : List Bool × Bool) k => (s.1, s.2, k)) (fun k => b13 m c (b0h m c idn K).1 (cur, false) k) _ (s0 := (cur, false)) rfl (fun k hk => ?_) ?_
 ·have hpl := c0p (m := m) (c := c) (P := (b0h m c idn K).1) (cur, false) k
  simp only at hpl
  have hrow : get (b4a m c idn K).next k = some (tab (2 ^ m.Inputs.length) (rv m c idn (b0h m c idn K).1 ((b0h m c idn K).1.getD k zero))) := c2y (by omega)
  have hlen : (b4a m c idn K).next.length = (b0h m c idn K).1.length := by show (tab K _).length = _; rw [b3y, hl]
  conv => rhs; unfold b13
  unfold b9u c2h
  simp only [hlen, Int.ofNat_lt, hk, decide_true, if_true, hrow, bS9, b7a (show k < (b13 m c (b0h m c idn K).1 (cur, false) k).1.length by omega), b2r hk (b1o (by have := hK.1; omega))]
  unfold stp
  cases hg : (b13 m c (b0h m c idn K).1 (cur, false) k).1.getD k false with
  | true => simp
  | false =>
   simp only [Bool.not_false, if_true]
   rw [l4t hm hK (by rw [hpl, hn]) hk]
   cases hh : hit m c (b0h m c idn K).1 (b13 m c (b0h m c idn K).1 (cur, false) k).1 k with
   | true => simp
   | false => simp
 ·have hlen : (b4a m c idn K).next.length = (b0h m c idn K).1.length := by show (tab K _).length = _; rw [b3y, hl]
  unfold b9u
  simp only [hlen, Int.lt_irrefl, decide_false, fT9, if_false]
theorem l4c (hm : OkM m) {ins : Bool} (hc : b2s m ins c) (hK : End m c idn K) {cur : List Bool} (hn : cur.length = (b0h m c idn K).1.length) {more : Bool} {i : Nat} (hi : i < (b0h m c idn K).1.length) :
  b0w (b6b m c ⟨(b0h m c idn K).1, (b0h m c idn K).2.1, (b0h m c idn K).2.2⟩ i) (cur, more, 0) = some (stp m c (b0h m c idn K).1 (cur, more) i) := by
 have hg := b59 (c := c) (hd := idn) hm K
 have hlN := c0q hm hg.n hg.o
 have hpow := p2a hm.z
 obtain ⟨p, hp⟩ := b3b hi
 have ho := hg.o p (b1d.2 ⟨i, hp⟩)
 have e : (b0h m c idn K).1.getD i zero = p := by rw [List.getD_eq_getElem?_getD, hp]; rfl
 have hi' : i < cur.length := by omega
 unfold stp
 cases hc0 : cur.getD i false with
 | true =>
  rw [if_neg (by simp)]
  refine b3d ?_
  unfold b6b
  simp only [b9j hm.z, bS9, b7a hi', hc0]
  by_cases hx : (0 : Int) < ((2 ^ m.Inputs.length : Nat) : Int) <;> simp [hx]
 | false =>
  have step : ∀ j : Nat, j < 2 ^ m.Inputs.length -> b6b m c ⟨(b0h m c idn K).1, (b0h m c idn K).2.1, (b0h m c idn K).2.2⟩ i (cur, more, (j : Int)) =
    (if (b22 m p j c && cur.getD ((b0h m c idn K).1.idxOf (nxt m p (idn j))) false) = true then some (.nx (cur.set i true, true, (j : Int) + 1)) else some (.nx (cur, more, (j : Int) + 1))) := fun j hj => by
   unfold b6b c4h
   simp only [b9j hm.z, bS9, Int.ofNat_lt, hj, decide_true, if_true, b7a hi', hc0, Bool.not_false, b1h hp, d5o hm.z ho.s hc, b2r hj (b1o (by omega)), Int.toNat_natCast]
   cases ha : b22 m p j c with
   | false => simp
   | true =>
    have hmem := c6w hK i j hi hj (by rw [e]; exact ha)
    rw [e] at hmem
    have hlt := List.idxOf_lt_length_iff.2 hmem
    simp only [if_true]
    rw [d5u hm ho, bS9, g0i (by omega), if_pos hmem, bS9, b7a (by rw [hn]; exact hlt), bS9, Bool.true_and, bS9]
  have key : ∀ d k : Nat, 2 ^ m.Inputs.length - k = d -> k <= 2 ^ m.Inputs.length -> (∀ j, j < k -> (b22 m p j c && cur.getD ((b0h m c idn K).1.idxOf (nxt m p (idn j))) false) = false) ->
    b0w (b6b m c ⟨(b0h m c idn K).1, (b0h m c idn K).2.1, (b0h m c idn K).2.2⟩ i) (cur, more, (k : Int)) = some (if hit m c (b0h m c idn K).1 cur i = true then (cur.set i true, true) else (cur, more)) := by
   intro d
   induction d with
   | zero =>
    intro k h1 h2 h3
    have : k = 2 ^ m.Inputs.length := by omega
    subst this
    rw [if_neg]
    ·refine b3d ?_
     unfold b6b
     simp only [b9j hm.z, bS9, Int.lt_irrefl, decide_false, fT9, if_false]
    ·intro hh
     obtain ⟨j, hj, hj2⟩ := List.any_eq_true.1 hh
     rw [e, h3 j (List.mem_range.1 hj)] at hj2; cases hj2
   | succ d ih =>
    intro k h1 h2 h3
    have hk : k < 2 ^ m.Inputs.length := by omega
    cases hh : (b22 m p k c && cur.getD ((b0h m c idn K).1.idxOf (nxt m p (idn k))) false) with
    | true =>
     rw [b32 (by rw [step k hk, if_pos hh]), if_pos (show hit m c (b0h m c idn K).1 cur i = true from List.any_eq_true.2 ⟨k, List.mem_range.2 hk, by rw [e]; exact hh⟩)]
     refine b3d ?_
     have hg2 : get (cur.set i true) (i : Int) = some true := by
      refine b1h ?_
      rw [List.getElem?_set, if_pos rfl, if_pos hi']
     unfold b6b
     simp only [b9j hm.z, bS9, hg2]
     by_cases hx : (k : Int) + 1 < ((2 ^ m.Inputs.length : Nat) : Int) <;> simp [hx]
    | false =>
     have := b32 (f := b6b m c ⟨(b0h m c idn K).1, (b0h m c idn K).2.1, (b0h m c idn K).2.2⟩ i) (s := (cur, more, (k : Int))) (s' := (cur, more, ((k + 1 : Nat) : Int))) (by rw [step k hk, if_neg (by rw [hh]; simp)]; rfl)
     rw [this]
     exact ih (k + 1) (by omega) (by omega) fun j hj => by
      by_cases ej : j = k
      ·subst ej; exact hh
      ·exact h3 j (by omega)
  have := key _ 0 rfl (Nat.zero_le _) (fun j hj => by omega)
  simp only [Int.natCast_zero] at this
  rw [this]
  simp only [true_and]
theorem d4v (hm : OkM m) {ins : Bool} (hc : b2s m ins c) (hK : End m c idn K) {cur : List Bool} (hn : cur.length = (b0h m c idn K).1.length) :
  b0w (c0y m c ⟨(b0h m c idn K).1, (b0h m c idn K).2.1, (b0h m c idn K).2.2⟩) (cur, false, 0) = some ((b13 m c (b0h m c idn K).1 (cur, false) (b0h m c idn K).1.length).1, (b13 m c (b0h m c idn K).1 (cur, false) (b0h m c idn K).1.length).2) := by
 refine b4h (f := c0y m c ⟨(b0h m c idn K).1, (b0h m c idn K).2.1, (b0h m c idn K).2.2⟩) (b0h m c idn K).1.length (fun (s : List Bool × Bool) k => (s.1, s.2, k)) (fun k => b13 m c (b0h m c idn K).1 (cur, false) k) _ (s0 := (cur, false)) rfl (fun k hk => ?_) ?_
 ·have hpl := c0p (m := m) (c := c) (P := (b0h m c idn K).1) (cur, false) k
  simp only at hpl
  have hkl : k < (b13 m c (b0h m c idn K).1 (cur, false) k).1.length := by omega
  have hr := l4c hm hc hK (cur := (b13 m c (b0h m c idn K).1 (cur, false) k).1) (more := (b13 m c (b0h m c idn K).1 (cur, false) k).2) (by rw [hpl, hn]) hk
  conv => rhs; unfold b13
  unfold c0y c8n
  simp only [Int.ofNat_lt, hkl, decide_true, if_true, hr, bS9, b2r hk (b1o (by have := hK.1; have := d1q hK; omega))]
 ·have hpl := c0p (m := m) (c := c) (P := (b0h m c idn K).1) (cur, false) (b0h m c idn K).1.length
  simp only at hpl
  have hkl : ¬ (b0h m c idn K).1.length < (b13 m c (b0h m c idn K).1 (cur, false) (b0h m c idn K).1.length).1.length := by omega
  unfold c0y
  simp only [Int.ofNat_lt, hkl, decide_false, fT9, if_false]
theorem g8w (hm : OkM m) {ins : Bool} (hc : b2s m ins c) (hK : End m c idn K) : ∀ (d : Nat) (cur : List Bool), cnt cur <= d -> Calm m c rest (b0h m c idn K).1 cur ->
  ∃ cur', b0w (b9v (b4a m c idn K)) (cur, true) = some cur' /\ b0w (c0z m c ⟨(b0h m c idn K).1, (b0h m c idn K).2.1, (b0h m c idn K).2.2⟩) (cur, true) = some cur' /\ Calm m c rest (b0h m c idn K).1 cur' /\
   ∀ i, i < (b0h m c idn K).1.length -> cur'.getD i false = false -> hit m c (b0h m c idn K).1 cur' i = false := by
 intro d
 induction d with
 | zero =>
  intro cur hd hcur
  have hp := c73 (m := m) (c := c) (P := (b0h m c idn K).1) (cur := cur) (b0h m c idn K).1.length (by rw [hcur.n]; omega)
  have hf : (b13 m c (b0h m c idn K).1 (cur, false) (b0h m c idn K).1.length).2 = false := by
   cases hb : (b13 m c (b0h m c idn K).1 (cur, false) (b0h m c idn K).1.length).2 with
   | false => rfl
   | true => rw [hb] at hp; have := hp.1; simp only [if_true] at this; omega
  have he := hp.2 hf
  refine ⟨cur, ?_, ?_, hcur, g2l hcur.n hf⟩
  ·rw [b32 (s' := (cur, false)) (by unfold b9v b9w; simp only [if_true]; rw [d4m hm hK hcur.n, he]; rfl)]
   exact b3d rfl
  ·rw [b32 (s' := (cur, false)) (by unfold c0z c01; simp only [if_true]; rw [d4v hm hc hK hcur.n, he]; rfl)]
   exact b3d rfl
 | succ d ih =>
  intro cur hd hcur
  have hp := c73 (m := m) (c := c) (P := (b0h m c idn K).1) (cur := cur) (b0h m c idn K).1.length (by rw [hcur.n]; omega)
  cases hb : (b13 m c (b0h m c idn K).1 (cur, false) (b0h m c idn K).1.length).2 with
  | false =>
   have he := hp.2 hb
   refine ⟨cur, ?_, ?_, hcur, g2l hcur.n hb⟩
   ·rw [b32 (s' := (cur, false)) (by unfold b9v b9w; simp only [if_true]; rw [d4m hm hK hcur.n, he]; rfl)]
    exact b3d rfl
   ·rw [b32 (s' := (cur, false)) (by unfold c0z c01; simp only [if_true]; rw [d4v hm hc hK hcur.n, he]; rfl)]
    exact b3d rfl
  | true =>
   have hcnt := hp.1
   rw [hb] at hcnt
   simp only [if_true] at hcnt
   obtain ⟨cur', h1, h2, h3⟩ := ih (b13 m c (b0h m c idn K).1 (cur, false) (b0h m c idn K).1.length).1 (by omega) (g2k (c6w hK) hcur _ (Nat.le_refl _))
   refine ⟨cur', ?_, ?_, h3⟩
   ·rw [b32 (s' := ((b13 m c (b0h m c idn K).1 (cur, false) (b0h m c idn K).1.length).1, true)) (by unfold b9v b9w; simp only [if_true]; rw [d4m hm hK hcur.n, hb]; rfl)]
    exact h1
   ·rw [b32 (s' := ((b13 m c (b0h m c idn K).1 (cur, false) (b0h m c idn K).1.length).1, true)) (by unfold c0z c01; simp only [if_true]; rw [d4v hm hc hK hcur.n, hb]; rfl)]
    exact h2
end
end
end Go.Nw.KM
namespace Go.Nw.KM
noncomputable section
def hs (i v : Nat) (x : Nat) : Int := (b6a x i v).getD 0
theorem d6y {m : Machine} {c n : List (List Literal)} (h : b7w m [c, n] 0) : OkM m /\ b2s m true c /\ b2s m true n := by
 rcases h with ⟨_, a, b⟩ | ⟨e, _⟩ | ⟨e, _⟩
 ·exact ⟨a, b c (by simp), b n (by simp)⟩
 ·cases e
 ·cases e
theorem d50 (b : Bool) : b5c b b = true := by cases b <;> rfl
section
variable [Bd]
end
end
end Go.Nw.KM
namespace Go.Nw.KM
noncomputable section
theorem d9s (x : Nat) : b6a x (-1) 0 = some (idn x) := g5p x
theorem g5j {m : Machine} (hf : ∀ n ∈ b3g m, n.size <= maxLen) (c never : List (List Literal)) : ∃ r, c2e m c never = some r /\ c34 m c never = some r /\ r.1.length <= 768 /\ b7w m [c, never] r.2.2 /\ (r.2.2 = 0 -> d5x m c never idn (r.1, r.2.1)) := by
 obtain ⟨e, h1, h2⟩ := d6t hf (l := [c, never]) (by simp)
 obtain ⟨e', h3, h4⟩ := d5s hf (l := [c, never]) (by simp)
 obtain rfl := d6z h2 h4
 unfold c2e c34
 rw [h1, h3, bS9, bS9]
 by_cases he : e = 0
 case neg =>
  refine ⟨([], false, e), ?_, ?_, by simp, h2, fun h => absurd h he⟩ <;> rw [if_pos (by simpa using he)]
 subst he
 obtain ⟨hm, hc, hn⟩ := d6y h2
 obtain ⟨r, g, a1, a2, a3, a4, a5⟩ := g6v (hd := idn) hm hc hn (heard := fun z7 => some (b6f z7)) (fun x _ => rfl) (inp := -1) (val := 0) (fun x _ => d9s x)
 rw [if_neg (by simp), if_neg (by simp), show b3h m = ⟨⟨m⟩⟩ from rfl, a1, a2, bS9, bS9, a3]
 exact ⟨(r.1, r.2, 0), rfl, rfl, a4, h2, fun _ => a5⟩
def g5v (m : Machine) (c rest : List (List Literal)) (r : List Int × Bool) : Prop :=
 ∃ K, End m c idn K /\ ((r = ([], false) /\ ∀ q ∈ (b0h m c idn K).1, d17 m c rest q) \/
  ∃ (k : Nat) (q : Place) (P : List Nat), r = (b27 P, true) /\ (b0h m c idn K).1[k]? = some q /\ ¬ d17 m c rest q /\ o8f m c idn zero P q /\ P.length <= k)
section
variable {m : Machine} {c rest : List (List Literal)} {K : Nat}
theorem g15 (hK : End m c idn K) {cur : List Bool} (hcm : Calm m c rest (b0h m c idn K).1 cur) (hst : ∀ i, i < (b0h m c idn K).1.length -> cur.getD i false = false -> hit m c (b0h m c idn K).1 cur i = false) :
  ∀ (l : List Nat) (i : Nat) (p q : Place), (b0h m c idn K).1[i]? = some p -> cur.getD i false = false -> o8f m c idn p l q -> b46 m q 0 rest = false
 | [], i, p, q, hp, hc0, hg => by
  cases hg
  have hi := b1k hp
  have e : (b0h m c idn K).1.getD i zero = p := by rw [List.getD_eq_getElem?_getD, hp]; rfl
  cases hh : b46 m p 0 rest with
  | false => rfl
  | true => have := hcm.r i hi (by rw [e]; exact hh); rw [hc0] at this; cases this
 | x :: l, i, p, q, hp, hc0, ⟨hx, ha, hg⟩ => by
  have hi := b1k hp
  have e : (b0h m c idn K).1.getD i zero = p := by rw [List.getD_eq_getElem?_getD, hp]; rfl
  have hmem := c6w hK i x hi hx (by rw [e]; exact ha)
  rw [e] at hmem
  refine g15 hK hcm hst l _ _ q (d2b hmem) ?_ hg
  have hh := hst i hi hc0
  cases hb : cur.getD ((b0h m c idn K).1.idxOf (nxt m p (idn x))) false with
  | false => rfl
  | true =>
   have : hit m c (b0h m c idn K).1 cur i = true := List.any_eq_true.2 ⟨x, List.mem_range.2 hx, by rw [e, ha, hb]; rfl⟩
   rw [hh] at this; cases this
end
theorem g5w {m : Machine} (hf : ∀ n ∈ b3g m, n.size <= maxLen) (c rest : List (List Literal)) : ∃ r, c2g m c rest = some r /\ c4g m c rest = some r /\ r.1.length <= 768 /\ b7w m [c, rest] r.2.2 /\ (r.2.2 = 0 -> g5v m c rest (r.1, r.2.1)) := by
 obtain ⟨e, h1, h2⟩ := d6t hf (l := [c, rest]) (by simp)
 obtain ⟨e', h3, h4⟩ := d5s hf (l := [c, rest]) (by simp)
 obtain rfl := d6z h2 h4
 unfold c2g c4g
 rw [h1, h3, bS9, bS9]
 by_cases he : e = 0
 case neg =>
  refine ⟨([], false, e), ?_, ?_, by simp, h2, fun h => absurd h he⟩ <;> rw [if_pos (by simpa using he)]
 subst he
 obtain ⟨hm, hc, hn⟩ := d6y h2
 obtain ⟨K, hK⟩ := g2u (c := c) (hd := idn) hm
 have hg := b59 (c := c) (hd := idn) hm K
 have ht := d4h (c := c) (hd := idn) hm K
 have hl := c0q hm hg.n hg.o
 have hp : ∀ k : Nat, k < (b0h m c idn K).1.length -> ∃ q, (b0h m c idn K).1[k]? = some q /\ OkP m q := fun k hk => by
  obtain ⟨q, hq⟩ := b3b hk
  exact ⟨q, hq, hg.o q (b1d.2 ⟨k, hq⟩)⟩
 rw [if_neg (by simp), if_neg (by simp), show b3h m = ⟨⟨m⟩⟩ from rfl, d7u (hd := idn) hm hc (heard := fun z7 => some (b6f z7)) (fun x _ => rfl) hK, d7v hm hc (inp := -1) (val := 0) (fun x _ => d9s x) hK, bS9, bS9]
 have hmk : mks 1 ((b0h m c idn K).1.length : Int) false = some (tab (b0h m c idn K).1.length fun _ => false) := g1q (by omega) (by omega)
 rw [show (b4a m c idn K).places = (b0h m c idn K).1 from rfl, hmk, bS9, bS9]
 have first1 : b0w (b9t m rest (b4a m c idn K)) (tab (b0h m c idn K).1.length (fun _ => false), 0) = some (tab (b0h m c idn K).1.length fun k => b46 m ((b0h m c idn K).1.getD k zero) 0 rest) := by
  refine b4h (f := b9t m rest (b4a m c idn K)) (b0h m c idn K).1.length (fun (s : List Bool) k => (s, k)) (fun k => fill (b0h m c idn K).1.length (fun k => b46 m ((b0h m c idn K).1.getD k zero) 0 rest) false k) _ (by rw [<- c49]; exact d1w) (fun k hk => ?_) ?_
  ·obtain ⟨q, hq, ho⟩ := hp k hk
   unfold b9t
   simp only [show (b4a m c idn K).places = (b0h m c idn K).1 from rfl, show b3h m = ⟨⟨m⟩⟩ from rfl, Int.ofNat_lt, hk, decide_true, if_true, b1h hq, bS9, c74, c5w hm.z ho.s hn, d15 hk, Int.toNat_natCast, b2r hk (b1o (by omega))]
   rw [c2r (by simp only [List.getD_eq_getElem?_getD, hq, Option.getD_some])]
  ·unfold b9t
   simp only [show (b4a m c idn K).places = (b0h m c idn K).1 from rfl, Int.lt_irrefl, decide_false, fT9, if_false, d1u (Nat.le_refl _)]
 have first2 : b0w (c0x m rest ⟨(b0h m c idn K).1, (b0h m c idn K).2.1, (b0h m c idn K).2.2⟩) (tab (b0h m c idn K).1.length (fun _ => false), 0) = some (tab (b0h m c idn K).1.length fun k => b46 m ((b0h m c idn K).1.getD k zero) 0 rest) := by
  refine b4h (f := c0x m rest ⟨(b0h m c idn K).1, (b0h m c idn K).2.1, (b0h m c idn K).2.2⟩) (b0h m c idn K).1.length (fun (s : List Bool) k => (s, k)) (fun k => fill (b0h m c idn K).1.length (fun k => b46 m ((b0h m c idn K).1.getD k zero) 0 rest) false k) _ (by rw [<- c49]; exact d1w) (fun k hk => ?_) ?_
  ·obtain ⟨q, hq, ho⟩ := hp k hk
   unfold c0x
   simp only [d7z, Int.ofNat_lt, hk, decide_true, if_true, b1h hq, bS9, c5x hm.z ho.s hn, d15 hk, Int.toNat_natCast, b2r hk (b1o (by omega))]
   rw [c2r (by simp only [List.getD_eq_getElem?_getD, hq, Option.getD_some])]
  ·unfold c0x
   simp only [d1u (Nat.le_refl _), b3y, Int.lt_irrefl, decide_false, fT9, if_false]
 have hc0 : Calm m c rest (b0h m c idn K).1 (tab (b0h m c idn K).1.length fun k => b46 m ((b0h m c idn K).1.getD k zero) 0 rest) := by
  refine ⟨b3y, fun i hi hh => ?_, fun i hi hh => ?_⟩
  ·rw [List.getD_eq_getElem?_getD, c1l hi, Option.getD_some] at hh
   exact ⟨[], _, rfl, hh⟩
  ·rw [List.getD_eq_getElem?_getD, c1l hi, Option.getD_some]; exact hh
 obtain ⟨cur, b1, b2, b3, b4⟩ := g8w hm hc hK _ _ (Nat.le_refl _) hc0
 rw [first1, first2, bS9, bS9]
 unfold c6r c8k
 rw [b1, b2, bS9, bS9]
 obtain ⟨r, d1, d2, d3, d4⟩ := d73 (w := b4a m c idn K) (g := ⟨(b0h m c idn K).1, (b0h m c idn K).2.1, (b0h m c idn K).2.2⟩) hg ht hl ⟨rfl, rfl⟩ rfl ⟨rfl, rfl⟩ rfl
  (wanted := fun z17 => b9s z17 cur) (p := fun k => !(cur.getD k false)) (fun k hk => by
   unfold b9s
   rw [b7a (by rw [b3.n]; exact hk)]; rfl)
 refine ⟨(r.1, r.2, 0), ?_, ?_, d2, h2, fun _ => ⟨K, hK, ?_⟩⟩
 ·unfold c6s
  rw [d1]; rfl
 ·unfold c8l c8m
  obtain ⟨R, hR⟩ : ∃ R : Nat -> List Int, ∀ k : Nat, k < (b0h m c idn K).1.length -> b4c ⟨(b0h m c idn K).1, (b0h m c idn K).2.1, (b0h m c idn K).2.2⟩ k = some (R k) := by
   refine ⟨fun k => (b4c ⟨(b0h m c idn K).1, (b0h m c idn K).2.1, (b0h m c idn K).2.2⟩ k).getD [], fun k hk => ?_⟩
   obtain ⟨P, _, h, _⟩ := g2z hg ht hl (b4a m c idn K) ⟨(b0h m c idn K).1, (b0h m c idn K).2.1, (b0h m c idn K).2.2⟩ ⟨rfl, rfl⟩ ⟨rfl, rfl⟩ k hk
   dsimp only
   rw [h]; rfl
  have e3 := c7s (f := c00 ⟨(b0h m c idn K).1, (b0h m c idn K).2.1, (b0h m c idn K).2.2⟩ cur) (n := (b0h m c idn K).1.length) (p := fun k => !(cur.getD k false)) (e := fun k => .inr (R k, true, 0)) (u := .inl ()) (fun k hk hpk => by
    unfold c00
    simp only [b3.n, Int.ofNat_lt, hk, decide_true, if_true, b7a (show k < cur.length by rw [b3.n]; exact hk), bS9]
    rw [if_pos hpk, hR k hk]; rfl) (fun k hk hpk => by
    unfold c00
    simp only [b3.n, Int.ofNat_lt, hk, decide_true, if_true, b7a (show k < cur.length by rw [b3.n]; exact hk), bS9]
    rw [if_neg (by rw [hpk]; simp), b2r hk (b1o (by omega))]) (by
    unfold c00
    simp only [b3.n, Int.lt_irrefl, decide_false, fT9, if_false])
  have e4 := d3 (fun i => if i < ((b0h m c idn K).1.length : Int) then (if cur.getD i.toNat false = false then (b4c ⟨(b0h m c idn K).1, (b0h m c idn K).2.1, (b0h m c idn K).2.2⟩ i).bind fun y => some (.br (.inr (y, true))) else some (.nx (i + 1))) else some (.br (.inl ()))) (fun k hk => by
    simp only [Int.ofNat_lt, hk, if_true, Int.toNat_natCast]
    by_cases hb : cur.getD k false = true
    ·rw [if_neg (by rw [hb]; simp), if_neg (by rw [hb]; simp)]
    ·have hb := c19 hb
     rw [if_pos hb, if_pos (by rw [hb]; rfl)]) (by simp)
  have e5 := c7s (f := fun i => if i < ((b0h m c idn K).1.length : Int) then (if cur.getD i.toNat false = false then (b4c ⟨(b0h m c idn K).1, (b0h m c idn K).2.1, (b0h m c idn K).2.2⟩ i).bind fun y => some (Out.br (Sum.inr (α := Unit) (y, true))) else some (.nx (i + 1))) else some (.br (.inl ()))) (n := (b0h m c idn K).1.length) (p := fun k => !(cur.getD k false)) (e := fun k => .inr (R k, true)) (u := .inl ()) (fun k hk hpk => by
    simp only [Int.ofNat_lt, hk, if_true, Int.toNat_natCast]
    rw [if_pos (by simpa using hpk), hR k hk]; rfl) (fun k hk hpk => by
    simp only [Int.ofNat_lt, hk, if_true, Int.toNat_natCast]
    rw [if_neg (by simpa using hpk)]) (by simp)
  rw [e5] at e4
  rw [e3]
  revert e4
  cases b5q (b0h m c idn K).1.length (fun k => !(cur.getD k false)) with
  | none => intro e4; simp only [bS9, iE9] at e4; rw [<- e4]; rfl
  | some t => intro e4; simp only [bS9, iE9] at e4; rw [<- e4]; rfl
 ·rcases d4 with ⟨rfl, d5⟩ | ⟨k, q, P, rfl, d5, d6, d7, d8, d9, _⟩
  ·refine .inl ⟨rfl, fun q hq => ?_⟩
   obtain ⟨k, hk⟩ := b1d.1 hq
   have := d5 k (b1k hk)
   have hh := b3.s k (b1k hk) (by simpa using this)
   rwa [show (b0h m c idn K).1.getD k zero = q by rw [List.getD_eq_getElem?_getD, hk]; rfl] at hh
  ·refine .inr ⟨k, q, P, rfl, d5, ?_, d8, d9⟩
   rintro ⟨l, q', g1, g2⟩
   have := g15 hK b3 b4 l k q q' d5 (by simpa using d6) g1
   rw [g2] at this; cases this
section
variable [Bd]
theorem g6w (hB : Bd.B <= 1048576) (m : Machine) (c : l04_Conds) (hm : b9d m) (hc : c54 c) : c3r m c = some true := by
 have hf := tdm hB hm
 obtain ⟨b, hb⟩ := l7h hf.n
 unfold c3r
 rw [hb, bS9]
 cases b with
 | true => rfl
 | false =>
  obtain ⟨r, h1, h2, h3, _⟩ := g5j hf.n c.Assume c.Never
  obtain ⟨r', h1', h2', h3', _⟩ := g5w hf.n c.Assume c.Never
  simp only [fT9, if_false]
  rw [g5m hf, bS9, d01 (d5j hB hc.1), bS9, d01 (d5j hB hc.2), bS9, h1, h2, bS9, bS9, g25 (b1o (by omega)), bS9, d50, if_neg (by simp), h1', h2', bS9, bS9, g25 (b1o (by omega)), bS9, d50]
  simp [c7n]
end
end
end Go.Nw.KM
